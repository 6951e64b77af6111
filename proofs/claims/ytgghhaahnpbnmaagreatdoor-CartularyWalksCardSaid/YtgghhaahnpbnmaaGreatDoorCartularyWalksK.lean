/- The proof, part 11 of 51. -/
import Derived.Test.YtgghhaahnpbnmaaGreatDoorCartularyWalksJ
import Derived.KernelRfl
set_option linter.all false
namespace Go.Proofs.YtgghhaahnpbnmaaGreatDoor.Eng
namespace Kc
abbrev L:=List Nat
abbrev X:=List (Nat×List Nat)
def ins (n:Nat):L->L
 | []=>[n]
 | a::r=>bif Nat.blt a n then a::ins n r else bif Nat.beq a n then a::r else n::a::r
def dG (a b:L):L:=a.foldl (λr x=>ins x r) b
def del (n:Nat):L->L
 | []=>[]
 | a::r=>bif Nat.beq a n then r else a::del n r
def look (n:Nat):X->L
 | []=>[]
 | (k,v)::r=>bif Nat.beq k n then v else look n r
def tE:AE->L
 | .t n=>[n]
 | .c _=>[]
def tO:Option AE->L
 | some x=>tE x
 | none=>[]
def tL:List AE->L
 | []=>[]
 | x::r=>tE x++tL r
def tP:List (Nat×Nat×AE)->L
 | []=>[]
 | x::r=>tE x.2.2++tP r
def tA:AO->L
 | .fZ x | .un _ x | .qf _ x | .p7 _ x | .p6 _ x | .qd x | .pY x | .nz x | .re x | .im x | .len _ x | .ext x _ | .qT x | .ld _ _ x | .box _ x | .qo _ _ _ x | .qn _ _ _ x | .o9 _ x | .oI _ x | .oU _ x | .qL _ x | .qg x | .gF x=>tE x
 | .pick c x y=>tE c++tE x++tE y
 | .bin _ x y | .beq _ x y | .nR _ _ x y | .qb x y | .mm _ x y | .eL _ x y | .rp x y | .st _ x y | .app _ _ x y | .ni _ _ _ x y | .wM _ x y | .qA _ _ x y | .qB _ x y | .qM _ _ _ x y=>tE x++tE y
 | .nj _ x y z=>tE x++tE y++tE z
 | .rz x l h | .ru _ x l h=>tE x++tO l++tO h
 | .mE _ ps=>tL ps
 | .nW _ ps=>tP ps
 | .call _ xs | .qK _ xs=>tL xs
 | .dyn x xs=>tE x++tL xs
 | .alloc _ | .nh _ | .bad=>[]
def AF (o:aO) (l:L):L:=
 let l:=dG (tA o.o) (match o.d with
  | some d=>del d l
  | none=>l)
 match o.g with
 | some (j,_)=>ins j l
 | none=>l
def bk (l:L):List aO->L
 | []=>l
 | o::r=>AF o (bk l r)
def ss (l:L):AT aO->L
 | .nil=>l
 | .cons o t=>AF o (ss l t)
 | .br x y=>dG (ss l x) (ss l y)
def toR (B:Nat) (o:aO):ROp:=
 match o.o,o.g,o.d with
 | .call f xs,some (j,w),some d=>.qp d j w o.q o.id f xs
 | .call f xs,_,d=>.kA d o.q o.id f xs
 | .dyn x xs,some (j,w),some d=>.qs d j w o.q o.id x xs
 | .dyn x xs,_,d=>.dyn d o.q o.id x xs
 | a,some (j,w),d=>bif isEff a||(match a with
     | .gF _ | .wM _ _ _=>true
     | _=>false)then .oB d j w o.q o.id a else match d with
     | some d=>.qw d j w o.q o.id a
     | none=>.oB d j w o.q o.id a
 | a,none,some d=>bif isEff a||(match a with
     | .gF _ | .wM _ _ _=>true
     | _=>false)then .eff d o.q o.id a else bif !o.q&&Nat.beq o.id (B+d)then .v d a else .val d o.q o.id a
 | a,none,none=>.lK o.q o.id a
def fO (B:Nat):List aO->List ROp
 | []=>[]
 | o::r=>toR B o::fO B r
def dies (o:aO):Bool:=
 match o.o with
 | .gF _=>true
 | _=>qi o
def wN:List aO->Option (List aO×aO×List aO)
 | []=>none
 | o::r=>bif dies o then some ([],o,r)else match wN r with
  | some (p,x,q)=>some (o::p,x,q)
  | none=>none
def xU:List aO->Option aO
 | []=>none
 | [o]=>some o
 | _::r=>xU r
def wO:List aO->List aO
 | []=>[]
 | [_]=>[]
 | o::r=>o::wO r
def tY (B:Nat):List aO->AT aO->RT
 | p,.nil=>.leaf (fO B p)
 | p,.cons o t=>tY B (p++[o]) t
 | p,.br x y=>.node (fO B p) (tY B [] x) (tY B [] y)
def tX (B:Nat):AT aO->DT
 | .nil=>.die (.lK false 0 .bad)
 | .cons o t=>bif qi o then .die (toR B o)else .step (toR B o) (tX B t)
 | .br x y=>.br (tX B x) (tX B y)
def ways (k:Option Nat):AC->Nat
 | .skip | .bQ _ | .cS _ _ | .label _ | .gi _=>match k with
  | none=>1
  | some _=>0
 | .alt _ _ _ | .fe _ _ _ _ | .fB _=>match k with
  | none=>2
  | some _=>0
 | .fx ops=>match k,xU ops with
  | none,some ⟨_,_,_,_,.gF _⟩=>0
  | none,_=>1
  | _,_=>0
 | .bad | .ret | .goto _=>0
 | .exit i=>match k with
  | some j=>bif Nat.beq i j then 1 else 0
  | none=>0
 | .seq (.gi _) (.block _ (.gl _ _ _ body))=>match k with
  | none=>1
  | some j=>ways (some j) body
 | .seq x y=>match k with
  | none=>bif Nat.beq (ways none x) 0 then 0 else ways none y
  | some j=>ways (some j) x+bif Nat.beq (ways none x) 0 then 0 else ways (some j) y
 | .cond _ x y=>ways k x+ways k y
 | .block i x=>match k with
  | none=>ways none x+ways (some i) x
  | some j=>bif Nat.beq i j then 0 else ways (some j) x
 | .loop x=>match k with
  | none=>0
  | some j=>ways (some j) x
 | .scope x=>ways k x
 | .gl _ _ _ _=>0
def size:AC->Nat
 | .bQ ops | .fx ops | .gi ops=>ops.length
 | .alt p x _ | .fe p x _ _=>p.length+x.length
 | .fB _=>8
 | .seq (.gi _) (.block _ (.gl _ _ _ _))=>1000
 | .seq x y=>size x+size y
 | .cond _ x y=>size x+size y
 | .block _ x=>size x
 | .scope x=>size x
 | .loop x=>1000+size x
 | _=>0
def ou:AC->Nat
 | .bQ (o::_) | .fx (o::_) | .gi (o::_) | .alt (o::_) _ _ | .fe (o::_) _ _ _ | .fB (.cons o _)=>o.id
 | .seq x _=>ou x
 | .cond _ x _=>ou x
 | .block _ x=>ou x
 | .loop x=>ou x
 | .scope x=>ou x
 | _=>0
def RC (ms:L) (x y:AC):Bool:=
 (Nat.ble 2 (ways none x)&&Nat.ble 6 (size y)&&match y with
  | .ret | .exit _ | .skip=>false
  | _=>true)||ms.any (Nat.beq (ou y))
def pK:X->L
 | []=>[]
 | (_,v)::r=>dG v (pK r)
def tC:L->L
 | []=>[]
 | a::r=>(3000000+a)::tC r
def nw (g:L):X->X
 | []=>[]
 | (k,_)::r=>(k,g)::nw g r
def outer (q0:Nat) (ps:L):L->L
 | []=>[]
 | a::r=>bif Nat.ble 2000000 a||Nat.beq a q0||ps.any (Nat.beq a)then outer q0 ps r else a::outer q0 ps r
structure RP where
 ops:List aO
 d:Nat
 f:Nat
 x:Nat
 ch:Option UInt8
 q0:Nat
def Fx (ops:List aO) (asg:AC):Option RP:=
 match xU ops,asg with
 | some ⟨some d,_,_,_,.call f [.t x,.c (.str [c])]⟩,.bQ [⟨some q0,_,_,_,_⟩]=>some ⟨wO ops,d,f,x,some c,q0⟩
 | some ⟨some d,_,_,_,.call f [.t x]⟩,.bQ [⟨some q0,_,_,_,_⟩]=>some ⟨wO ops,d,f,x,none,q0⟩
 | _,_=>none
def fF (lr:L) (ex:X):AC->L->X->L×X
 | .skip,l,g=>(l,g)
 | .bad,_,g=>([],g)
 | .ret,_,g=>(lr,g)
 | .exit i,_,g=>(look i ex,g)
 | .goto i,_,g=>(look i g,g)
 | .label i,l,g=>(l,(i,l)::g)
 | .scope x,l,g => 
  let g1:=(fF lr ex x l g).2;let g2:=(fF lr ex x l g1).2;let g3:=(fF lr ex x l g2).2;((fF lr ex x l g3).1,g)
 | .cS _ xs,l,g=>(dG (tL xs) l,g)
 | .fB T,l,g=>(ss l T,g)
 | .bQ ops,l,g | .gi ops,l,g=>(bk l ops,g)
 | .fx ops,l,g=>(bk (dG lr l) ops,g)
 | .alt p x y,l,g=>(bk (dG (bk l x) (bk l y)) p,g)
 | .fe p x y _,l,g=>(bk (dG (bk (dG lr l) x) (bk (dG lr l) y)) p,g)
 | .seq (.gi ops) (.block b (.gl _ ps asg body)),l,g=>match Fx ops asg with
  | none=>([],g)
  | some r=>
   let S0:=dG (dG l lr) (dG (pK ex) (pK g))
   let S0:=match r.ch with
    | none=>ins r.x S0
    | some _=>S0
   let G:=tC S0
   let S1:=dG (outer r.q0 ps (fF G ((b,G)::nw G ex) body G (nw G g)).1) S0
   (bk (ins r.x (del r.d S1)) r.ops,g)
 | .seq x y,l,g=>match fF lr ex y l g with
  | (l2,g2)=>fF lr ex x l2 g2
 | .cond c x y,l,g=>match fF lr ex x l g with
  | (a,g1)=>match fF lr ex y l g1 with
   | (b,g2)=>(dG (tE c) (dG a b),g2)
 | .block i x,l,g=>((fF lr ((i,l)::ex) x l g).1,g)
 | .loop x,_,g=>fF lr ex x [] g
 | .gl _ _ _ _,_,g=>([],g)
def jH (B:Nat) (ms lr:L) (ex:X):AC->L->X->AK
 | .skip,_,_=>.skip
 | .bad,_,_=>.bad
 | .ret,_,_=>.ret
 | .exit i,_,_=>.exit i
 | .goto i,_,_=>.goto i
 | .label i,_,_=>.label i
 | .scope x,l,g => 
  let g1:=(fF lr ex x l g).2;let g2:=(fF lr ex x l g1).2;let g3:=(fF lr ex x l g2).2;.scope (jH B ms lr ex x l g3)
 | .cS f xs,_,_=>.cS f xs
 | .fB T,l,_=>.fB (tY B [] T) l
 | .bQ ops,l,_ | .gi ops,l,_=>.bQ (fO B ops) l
 | .fx ops,l,_=>match wN ops with
  | none=>.bad
  | some (p,o,q)=>match wN q with
   | none=>.fx (fO B p) (toR B o) (fO B q) l
   | some (q1,o2,q2)=>.oZ (fO B p) (toR B o) (fO B q1) (toR B o2) (fO B q2) l
 | .alt p x y,l,_=>.alt (fO B p) (fO B x) (fO B y) l
 | .fe p x y T,l,_=>.fe (fO B p) (fO B x) (fO B y) l (tX B T)
 | .seq (.gi ops) (.block b (.gl _ ps asg body)),l,g=>match Fx ops asg with
  | none=>.bad
  | some r=>
   let S0:=dG (dG l lr) (dG (pK ex) (pK g))
   let S0:=match r.ch with
    | none=>ins r.x S0
    | some _=>S0
   let G:=tC S0
   let S1:=dG (outer r.q0 ps (fF G ((b,G)::nw G ex) body G (nw G g)).1) S0
   let G:=tC S1
   let y:=jH B ms G ((b,G)::nw G ex) body G (nw G g)
   match r.ch,ps with
   | some c,[p]=>.split (fO B r.ops) r.d r.f (.t r.x) c b p r.q0 y
   | none,[p1,p]=>.back (fO B r.ops) r.d r.f r.x b p1 p r.q0 y
   | _,_=>.bad
 | .seq x y,l,g=>match fF lr ex y l g with
  | (l2,g2)=>bif RC ms x y then .seq (jH B ms lr ex x l2 g2) (.ck (jH B ms lr ex y l g))else .seq (jH B ms lr ex x l2 g2) (jH B ms lr ex y l g)
 | .cond c x y,l,g=>.cond c (jH B ms lr ex x l g) (jH B ms lr ex y l g)
 | .block i x,l,g=>.block i (jH B ms lr ((i,l)::ex) x l g)
 | .loop x,_,g=>.loop (jH B ms lr ex x (fF lr ex x [] g).1 g)
 | .gl _ _ _ _,_,_=>.bad
def code (P:Program) (fn:Func) (B:Nat) (ms lr:L):AK:=
 match fn.body with
 | some b=>jH (1000*B) ms lr [] (trCode P fn.ntmps (1000*B) b) lr []
 | none=>.bad
def kept:Nat->L
 | 0=>[]
 | k+1=>ins (2000000+k) (kept k)
def lr (k:Nat):List RVar->L
 | []=>kept k
 | .tmp n::r | .cell n _ _::r=>ins n (lr k r)
 | .bad::r=>lr k r
def rs (P:Program) (fn:Func):List RVar:=fn.results.toList.map (trRes P)
end Kc
def AK.x:AK->AK
 | .seq x _ | .cond _ x _ | .block _ x | .loop x | .scope x | .split _ _ _ _ _ _ _ _ x | .back _ _ _ _ _ _ _ _ x=>x
 | x=>x
def AK.y:AK->AK
 | .seq _ (.ck y) | .seq _ y | .cond _ _ y=>y
 | y=>y
def DB (x y:AK):AK:=.seq x (.ck y)
theorem eM (x y:AK):AK.seq x (.ck y)=DB x y:=rfl
theorem eQ (n:Nat) (h:n<2^8):(⟨⟨⟨n,h⟩⟩⟩:UInt8)=UInt8.ofNat n:=by
 apply aeY.1;simp[UInt8.toNat_ofNat];exact(acL h).symm
theorem jn {P:Program} {E:Env} {x y:AK} {Q:KQ} {st:St}:vcW P E (DB x y) Q st=vcW P E x (KQ.seq P E (.ck y) Q) st:=(rfl)
abbrev pk {x:AK} (c:AK) (_:c=x:=by with_unfolding_all (conv=>rhs;reduce;try simp only[eM,eQ,Int.reduceOfNat,Int.reduceNegSucc,UInt8.reduceOfNat])):AK:=c
section
variable {P:Program} {f:Nat} {fn:Func} {x:AK} {rs:List RVar}
namespace Kf
theorem s0 (B:Nat) (hf:P.funcs[f]?=some fn) (ms:Kc.L:=[]) (_:rs=Kc.rs P fn:=by with_unfolding_all (conv=>rhs;reduce)) (_:x=Kc.code P fn B ms (Kc.lr 0 rs):=by with_unfolding_all (conv=>rhs;reduce;try simp only[eM,eQ,Int.reduceOfNat,Int.reduceNegSucc,UInt8.reduceOfNat])) (hk:fnChk P fn (1000*B) 0=some (x.erase (1000*B),rs):=by kernel_rfl) ⦃h:HP⦄ ⦃Post:HP->AV->List AV->Prop⦄ (hp:gu P x rs 0 [] h Post):Spec P f h [] Post:=jc ⟨_,hf,hk⟩ rfl [] trivial hp
theorem s1 (B:Nat) (hf:P.funcs[f]?=some fn) (ms:Kc.L:=[]) (_:rs=Kc.rs P fn:=by with_unfolding_all (conv=>rhs;reduce)) (_:x=Kc.code P fn B ms (Kc.lr 0 rs):=by with_unfolding_all (conv=>rhs;reduce;try simp only[eM,eQ,Int.reduceOfNat,Int.reduceNegSucc,UInt8.reduceOfNat])) (hk:fnChk P fn (1000*B) 1=some (x.erase (1000*B),rs):=by kernel_rfl) ⦃h:HP⦄ ⦃a0:AV⦄ ⦃Post:HP->AV->List AV->Prop⦄ (hp:gu P x rs 1 [(0,a0)] h Post):Spec P f h [a0] Post:=jc ⟨_,hf,hk⟩ rfl [(0,a0)] ⟨rfl,trivial⟩ hp
theorem s2 (B:Nat) (hf:P.funcs[f]?=some fn) (ms:Kc.L:=[]) (_:rs=Kc.rs P fn:=by with_unfolding_all (conv=>rhs;reduce)) (_:x=Kc.code P fn B ms (Kc.lr 0 rs):=by with_unfolding_all (conv=>rhs;reduce;try simp only[eM,eQ,Int.reduceOfNat,Int.reduceNegSucc,UInt8.reduceOfNat])) (hk:fnChk P fn (1000*B) 2=some (x.erase (1000*B),rs):=by kernel_rfl) ⦃h:HP⦄ ⦃a0 a1:AV⦄ ⦃Post:HP->AV->List AV->Prop⦄ (hp:gu P x rs 2 [(0,a0),(1,a1)] h Post):Spec P f h [a0,a1] Post:=jc ⟨_,hf,hk⟩ rfl [(0,a0),(1,a1)] ⟨rfl,rfl,trivial⟩ hp
theorem s3 (B:Nat) (hf:P.funcs[f]?=some fn) (ms:Kc.L:=[]) (_:rs=Kc.rs P fn:=by with_unfolding_all (conv=>rhs;reduce)) (_:x=Kc.code P fn B ms (Kc.lr 0 rs):=by with_unfolding_all (conv=>rhs;reduce;try simp only[eM,eQ,Int.reduceOfNat,Int.reduceNegSucc,UInt8.reduceOfNat])) (hk:fnChk P fn (1000*B) 3=some (x.erase (1000*B),rs):=by kernel_rfl) ⦃h:HP⦄ ⦃a0 a1 a2:AV⦄ ⦃Post:HP->AV->List AV->Prop⦄ (hp:gu P x rs 3 [(0,a0),(1,a1),(2,a2)] h Post):Spec P f h [a0,a1,a2] Post:=jc ⟨_,hf,hk⟩ rfl [(0,a0),(1,a1),(2,a2)] ⟨rfl,rfl,rfl,trivial⟩ hp
theorem s4 (B:Nat) (hf:P.funcs[f]?=some fn) (ms:Kc.L:=[]) (_:rs=Kc.rs P fn:=by with_unfolding_all (conv=>rhs;reduce)) (_:x=Kc.code P fn B ms (Kc.lr 0 rs):=by with_unfolding_all (conv=>rhs;reduce;try simp only[eM,eQ,Int.reduceOfNat,Int.reduceNegSucc,UInt8.reduceOfNat])) (hk:fnChk P fn (1000*B) 4=some (x.erase (1000*B),rs):=by kernel_rfl) ⦃h:HP⦄ ⦃a0 a1 a2 a3:AV⦄ ⦃Post:HP->AV->List AV->Prop⦄ (hp:gu P x rs 4 [(0,a0),(1,a1),(2,a2),(3,a3)] h Post):Spec P f h [a0,a1,a2,a3] Post:=jc ⟨_,hf,hk⟩ rfl [(0,a0),(1,a1),(2,a2),(3,a3)] ⟨rfl,rfl,rfl,rfl,trivial⟩ hp
theorem s5 (B:Nat) (hf:P.funcs[f]?=some fn) (ms:Kc.L:=[]) (_:rs=Kc.rs P fn:=by with_unfolding_all (conv=>rhs;reduce)) (_:x=Kc.code P fn B ms (Kc.lr 0 rs):=by with_unfolding_all (conv=>rhs;reduce;try simp only[eM,eQ,Int.reduceOfNat,Int.reduceNegSucc,UInt8.reduceOfNat])) (hk:fnChk P fn (1000*B) 5=some (x.erase (1000*B),rs):=by kernel_rfl) ⦃h:HP⦄ ⦃a0 a1 a2 a3 a4:AV⦄ ⦃Post:HP->AV->List AV->Prop⦄ (hp:gu P x rs 5 [(0,a0),(1,a1),(2,a2),(3,a3),(4,a4)] h Post):Spec P f h [a0,a1,a2,a3,a4] Post:=jc ⟨_,hf,hk⟩ rfl [(0,a0),(1,a1),(2,a2),(3,a3),(4,a4)] ⟨rfl,rfl,rfl,rfl,rfl,trivial⟩ hp
theorem s6 (B:Nat) (hf:P.funcs[f]?=some fn) (ms:Kc.L:=[]) (_:rs=Kc.rs P fn:=by with_unfolding_all (conv=>rhs;reduce)) (_:x=Kc.code P fn B ms (Kc.lr 0 rs):=by with_unfolding_all (conv=>rhs;reduce;try simp only[eM,eQ,Int.reduceOfNat,Int.reduceNegSucc,UInt8.reduceOfNat])) (hk:fnChk P fn (1000*B) 6=some (x.erase (1000*B),rs):=by kernel_rfl) ⦃h:HP⦄ ⦃a0 a1 a2 a3 a4 a5:AV⦄ ⦃Post:HP->AV->List AV->Prop⦄ (hp:gu P x rs 6 [(0,a0),(1,a1),(2,a2),(3,a3),(4,a4),(5,a5)] h Post):Spec P f h [a0,a1,a2,a3,a4,a5] Post:=jc ⟨_,hf,hk⟩ rfl [(0,a0),(1,a1),(2,a2),(3,a3),(4,a4),(5,a5)] ⟨rfl,rfl,rfl,rfl,rfl,rfl,trivial⟩ hp
theorem k1 (B:Nat) (hf:P.funcs[f]?=some fn) (ms:Kc.L:=[]) (_:rs=Kc.rs P fn:=by with_unfolding_all (conv=>rhs;reduce)) (_:x=Kc.code P fn B ms (Kc.lr 1 rs):=by with_unfolding_all (conv=>rhs;reduce;try simp only[eM,eQ,Int.reduceOfNat,Int.reduceNegSucc,UInt8.reduceOfNat])) (hk:fnChk P fn (1000*B) 1=some (x.erase (1000*B),rs):=by kernel_rfl) ⦃h:HP⦄ ⦃a0:AV⦄ ⦃Post:HP->AV->List AV->Prop⦄ (hp:gu P x rs 1 [(0,a0),(2000000,a0)] h Post):Spec P f h [a0] Post:=jc ⟨_,hf,hk⟩ rfl [(0,a0),(2000000,a0)] ⟨rfl,rfl,trivial⟩ hp
theorem k2 (B:Nat) (hf:P.funcs[f]?=some fn) (ms:Kc.L:=[]) (_:rs=Kc.rs P fn:=by with_unfolding_all (conv=>rhs;reduce)) (_:x=Kc.code P fn B ms (Kc.lr 2 rs):=by with_unfolding_all (conv=>rhs;reduce;try simp only[eM,eQ,Int.reduceOfNat,Int.reduceNegSucc,UInt8.reduceOfNat])) (hk:fnChk P fn (1000*B) 2=some (x.erase (1000*B),rs):=by kernel_rfl) ⦃h:HP⦄ ⦃a0 a1:AV⦄ ⦃Post:HP->AV->List AV->Prop⦄ (hp:gu P x rs 2 [(0,a0),(1,a1),(2000000,a0),(2000001,a1)] h Post):Spec P f h [a0,a1] Post:=jc ⟨_,hf,hk⟩ rfl [(0,a0),(1,a1),(2000000,a0),(2000001,a1)] ⟨rfl,rfl,rfl,rfl,trivial⟩ hp
theorem k3 (B:Nat) (hf:P.funcs[f]?=some fn) (ms:Kc.L:=[]) (_:rs=Kc.rs P fn:=by with_unfolding_all (conv=>rhs;reduce)) (_:x=Kc.code P fn B ms (Kc.lr 3 rs):=by with_unfolding_all (conv=>rhs;reduce;try simp only[eM,eQ,Int.reduceOfNat,Int.reduceNegSucc,UInt8.reduceOfNat])) (hk:fnChk P fn (1000*B) 3=some (x.erase (1000*B),rs):=by kernel_rfl) ⦃h:HP⦄ ⦃a0 a1 a2:AV⦄ ⦃Post:HP->AV->List AV->Prop⦄ (hp:gu P x rs 3 [(0,a0),(1,a1),(2,a2),(2000000,a0),(2000001,a1),(2000002,a2)] h Post):Spec P f h [a0,a1,a2] Post:=jc ⟨_,hf,hk⟩ rfl [(0,a0),(1,a1),(2,a2),(2000000,a0),(2000001,a1),(2000002,a2)] ⟨rfl,rfl,rfl,rfl,rfl,rfl,trivial⟩ hp
theorem k4 (B:Nat) (hf:P.funcs[f]?=some fn) (ms:Kc.L:=[]) (_:rs=Kc.rs P fn:=by with_unfolding_all (conv=>rhs;reduce)) (_:x=Kc.code P fn B ms (Kc.lr 4 rs):=by with_unfolding_all (conv=>rhs;reduce;try simp only[eM,eQ,Int.reduceOfNat,Int.reduceNegSucc,UInt8.reduceOfNat])) (hk:fnChk P fn (1000*B) 4=some (x.erase (1000*B),rs):=by kernel_rfl) ⦃h:HP⦄ ⦃a0 a1 a2 a3:AV⦄ ⦃Post:HP->AV->List AV->Prop⦄ (hp:gu P x rs 4 [(0,a0),(1,a1),(2,a2),(3,a3),(2000000,a0),(2000001,a1),(2000002,a2),(2000003,a3)] h Post):Spec P f h [a0,a1,a2,a3] Post:=jc ⟨_,hf,hk⟩ rfl [(0,a0),(1,a1),(2,a2),(3,a3),(2000000,a0),(2000001,a1),(2000002,a2),(2000003,a3)] ⟨rfl,rfl,rfl,rfl,rfl,rfl,rfl,rfl,trivial⟩ hp
theorem k5 (B:Nat) (hf:P.funcs[f]?=some fn) (ms:Kc.L:=[]) (_:rs=Kc.rs P fn:=by with_unfolding_all (conv=>rhs;reduce)) (_:x=Kc.code P fn B ms (Kc.lr 5 rs):=by with_unfolding_all (conv=>rhs;reduce;try simp only[eM,eQ,Int.reduceOfNat,Int.reduceNegSucc,UInt8.reduceOfNat])) (hk:fnChk P fn (1000*B) 5=some (x.erase (1000*B),rs):=by kernel_rfl) ⦃h:HP⦄ ⦃a0 a1 a2 a3 a4:AV⦄ ⦃Post:HP->AV->List AV->Prop⦄ (hp:gu P x rs 5 [(0,a0),(1,a1),(2,a2),(3,a3),(4,a4),(2000000,a0),(2000001,a1),(2000002,a2),(2000003,a3),(2000004,a4)] h Post):Spec P f h [a0,a1,a2,a3,a4] Post:=jc ⟨_,hf,hk⟩ rfl [(0,a0),(1,a1),(2,a2),(3,a3),(4,a4),(2000000,a0),(2000001,a1),(2000002,a2),(2000003,a3),(2000004,a4)] ⟨rfl,rfl,rfl,rfl,rfl,rfl,rfl,rfl,rfl,rfl,trivial⟩ hp
theorem r0 (B:Nat) (hf:P.funcs[f]?=some fn) (ms:Kc.L:=[]) (_:rs=Kc.rs P fn:=by with_unfolding_all (conv=>rhs;reduce)) (_:x=Kc.code P fn B ms (Kc.lr 0 rs):=by with_unfolding_all (conv=>rhs;reduce;try simp only[eM,eQ,Int.reduceOfNat,Int.reduceNegSucc,UInt8.reduceOfNat])) (hk:fnChk P fn (1000*B) 0=some (x.erase (1000*B),rs):=by kernel_rfl) ⦃h:HP⦄ ⦃Post:HP->AV->List AV->Prop⦄ (hp:nM P x rs 0 [] h Post):Spec P f h [] Post:=rB ⟨_,hf,hk⟩ rfl [] trivial hp
theorem r1 (B:Nat) (hf:P.funcs[f]?=some fn) (ms:Kc.L:=[]) (_:rs=Kc.rs P fn:=by with_unfolding_all (conv=>rhs;reduce)) (_:x=Kc.code P fn B ms (Kc.lr 0 rs):=by with_unfolding_all (conv=>rhs;reduce;try simp only[eM,eQ,Int.reduceOfNat,Int.reduceNegSucc,UInt8.reduceOfNat])) (hk:fnChk P fn (1000*B) 1=some (x.erase (1000*B),rs):=by kernel_rfl) ⦃h:HP⦄ ⦃a0:AV⦄ ⦃Post:HP->AV->List AV->Prop⦄ (hp:nM P x rs 1 [(0,a0)] h Post):Spec P f h [a0] Post:=rB ⟨_,hf,hk⟩ rfl [(0,a0)] ⟨rfl,trivial⟩ hp
theorem r2 (B:Nat) (hf:P.funcs[f]?=some fn) (ms:Kc.L:=[]) (_:rs=Kc.rs P fn:=by with_unfolding_all (conv=>rhs;reduce)) (_:x=Kc.code P fn B ms (Kc.lr 0 rs):=by with_unfolding_all (conv=>rhs;reduce;try simp only[eM,eQ,Int.reduceOfNat,Int.reduceNegSucc,UInt8.reduceOfNat])) (hk:fnChk P fn (1000*B) 2=some (x.erase (1000*B),rs):=by kernel_rfl) ⦃h:HP⦄ ⦃a0 a1:AV⦄ ⦃Post:HP->AV->List AV->Prop⦄ (hp:nM P x rs 2 [(0,a0),(1,a1)] h Post):Spec P f h [a0,a1] Post:=rB ⟨_,hf,hk⟩ rfl [(0,a0),(1,a1)] ⟨rfl,rfl,trivial⟩ hp
theorem r3 (B:Nat) (hf:P.funcs[f]?=some fn) (ms:Kc.L:=[]) (_:rs=Kc.rs P fn:=by with_unfolding_all (conv=>rhs;reduce)) (_:x=Kc.code P fn B ms (Kc.lr 0 rs):=by with_unfolding_all (conv=>rhs;reduce;try simp only[eM,eQ,Int.reduceOfNat,Int.reduceNegSucc,UInt8.reduceOfNat])) (hk:fnChk P fn (1000*B) 3=some (x.erase (1000*B),rs):=by kernel_rfl) ⦃h:HP⦄ ⦃a0 a1 a2:AV⦄ ⦃Post:HP->AV->List AV->Prop⦄ (hp:nM P x rs 3 [(0,a0),(1,a1),(2,a2)] h Post):Spec P f h [a0,a1,a2] Post:=rB ⟨_,hf,hk⟩ rfl [(0,a0),(1,a1),(2,a2)] ⟨rfl,rfl,rfl,trivial⟩ hp
theorem x1 (B:Nat) (hf:P.funcs[f]?=some fn) (ms:Kc.L:=[]) (_:rs=Kc.rs P fn:=by with_unfolding_all (conv=>rhs;reduce)) (_:x=Kc.code P fn B ms (Kc.lr 1 rs):=by with_unfolding_all (conv=>rhs;reduce;try simp only[eM,eQ,Int.reduceOfNat,Int.reduceNegSucc,UInt8.reduceOfNat])) (hk:fnChk P fn (1000*B) 1=some (x.erase (1000*B),rs):=by kernel_rfl) ⦃h:HP⦄ ⦃a0:AV⦄ ⦃V:Value⦄ (hp:rW P x V [(0,a0),(2000000,a0)] h):eA P f h [a0] V:=za ⟨_,hf,hk⟩ rfl [(0,a0),(2000000,a0)] ⟨rfl,rfl,trivial⟩ hp
theorem x2 (B:Nat) (hf:P.funcs[f]?=some fn) (ms:Kc.L:=[]) (_:rs=Kc.rs P fn:=by with_unfolding_all (conv=>rhs;reduce)) (_:x=Kc.code P fn B ms (Kc.lr 2 rs):=by with_unfolding_all (conv=>rhs;reduce;try simp only[eM,eQ,Int.reduceOfNat,Int.reduceNegSucc,UInt8.reduceOfNat])) (hk:fnChk P fn (1000*B) 2=some (x.erase (1000*B),rs):=by kernel_rfl) ⦃h:HP⦄ ⦃a0 a1:AV⦄ ⦃V:Value⦄ (hp:rW P x V [(0,a0),(1,a1),(2000000,a0),(2000001,a1)] h):eA P f h [a0,a1] V:=za ⟨_,hf,hk⟩ rfl [(0,a0),(1,a1),(2000000,a0),(2000001,a1)] ⟨rfl,rfl,rfl,rfl,trivial⟩ hp
theorem x3 (B:Nat) (hf:P.funcs[f]?=some fn) (ms:Kc.L:=[]) (_:rs=Kc.rs P fn:=by with_unfolding_all (conv=>rhs;reduce)) (_:x=Kc.code P fn B ms (Kc.lr 3 rs):=by with_unfolding_all (conv=>rhs;reduce;try simp only[eM,eQ,Int.reduceOfNat,Int.reduceNegSucc,UInt8.reduceOfNat])) (hk:fnChk P fn (1000*B) 3=some (x.erase (1000*B),rs):=by kernel_rfl) ⦃h:HP⦄ ⦃a0 a1 a2:AV⦄ ⦃V:Value⦄ (hp:rW P x V [(0,a0),(1,a1),(2,a2),(2000000,a0),(2000001,a1),(2000002,a2)] h):eA P f h [a0,a1,a2] V:=za ⟨_,hf,hk⟩ rfl [(0,a0),(1,a1),(2,a2),(2000000,a0),(2000001,a1),(2000002,a2)] ⟨rfl,rfl,rfl,rfl,rfl,rfl,trivial⟩ hp
end Kf
end
end Go.Proofs.YtgghhaahnpbnmaaGreatDoor.Eng
