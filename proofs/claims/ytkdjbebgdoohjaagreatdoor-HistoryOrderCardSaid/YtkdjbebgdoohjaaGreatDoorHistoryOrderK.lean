/- The proof, part 11 of 50. -/
import Derived.Test.YtkdjbebgdoohjaaGreatDoorHistoryOrderJ
import Derived.KernelRfl
set_option linter.all false
namespace Go.Proofs.YtkdjbebgdoohjaaGreatDoor.Eng
namespace Kc
abbrev L:=List Nat
abbrev X:=List (Nat×List Nat)
def ins (n:Nat):L->L
 | []=>[n]
 | a::r=>bif Nat.blt a n then a::ins n r else bif Nat.beq a n then a::r else n::a::r
def dD (a b:L):L:=a.foldl (λr x=>ins x r) b
def del (n:Nat):L->L
 | []=>[]
 | a::r=>bif Nat.beq a n then r else a::del n r
def look (n:Nat):X->L
 | []=>[]
 | (k,v)::r=>bif Nat.beq k n then v else look n r
def tE:AE->L
 | .t n=>[n]
 | .c _=>[]
def tO:Option AE->L
 | some x=>tE x
 | none=>[]
def tL:List AE->L
 | []=>[]
 | x::r=>tE x++tL r
def tP:List (Nat×Nat×AE)->L
 | []=>[]
 | x::r=>tE x.2.2++tP r
def tA:AO->L
 | .fM x | .un _ x | .oX _ x | .oO _ x | .oM _ x | .oV x | .oH x | .mw x | .re x | .im x | .len _ x | .ext x _ | .pL x | .ld _ _ x | .box _ x | .o7 _ _ _ x | .o6 _ _ _ x | .nV _ x | .nE _ x | .nM _ x | .pE _ x | .oY x | .gm x=>tE x
 | .pick c x y=>tE c++tE x++tE y
 | .bin _ x y | .beq _ x y | .mM _ _ x y | .oT x y | .mm _ x y | .ek _ x y | .p8 x y | .st _ x y | .app _ _ x y | .me _ _ _ x y | .uW _ x y | .pn _ _ x y | .po _ x y | .pF _ _ _ x y=>tE x++tE y
 | .mf _ x y z=>tE x++tE y++tE z
 | .qd x l h | .qa _ x l h=>tE x++tO l++tO h
 | .lR _ ps=>tL ps
 | .mS _ ps=>tP ps
 | .call _ xs | .pD _ xs=>tL xs
 | .dyn x xs=>tE x++tL xs
 | .alloc _ | .mc _ | .bad=>[]
def zc (o:aN) (l:L):L:=
 let l:=dD (tA o.o) (match o.d with
  | some d=>del d l
  | none=>l)
 match o.g with
 | some (j,_)=>ins j l
 | none=>l
def bk (l:L):List aN->L
 | []=>l
 | o::r=>zc o (bk l r)
def qQ (l:L):AT aN->L
 | .nil=>l
 | .cons o t=>zc o (qQ l t)
 | .br x y=>dD (qQ l x) (qQ l y)
def toR (B:Nat) (o:aN):ROp:=
 match o.o,o.g,o.d with
 | .call f xs,some (j,w),some d=>.o8 d j w o.q o.id f xs
 | .call f xs,_,d=>.j8 d o.q o.id f xs
 | .dyn x xs,some (j,w),some d=>.o9 d j w o.q o.id x xs
 | .dyn x xs,_,d=>.dyn d o.q o.id x xs
 | a,some (j,w),d=>bif isEff a||(match a with
     | .gm _ | .uW _ _ _=>true
     | _=>false)then .nz d j w o.q o.id a else match d with
     | some d=>.pf d j w o.q o.id a
     | none=>.nz d j w o.q o.id a
 | a,none,some d=>bif isEff a||(match a with
     | .gm _ | .uW _ _ _=>true
     | _=>false)then .eff d o.q o.id a else bif !o.q&&Nat.beq o.id (B+d)then .v d a else .val d o.q o.id a
 | a,none,none=>.kT o.q o.id a
def fC (B:Nat):List aN->List ROp
 | []=>[]
 | o::r=>toR B o::fC B r
def dies (o:aN):Bool:=
 match o.o with
 | .gm _=>true
 | _=>oZ o
def uX:List aN->Option (List aN×aN×List aN)
 | []=>none
 | o::r=>bif dies o then some ([],o,r)else match uX r with
  | some (p,x,q)=>some (o::p,x,q)
  | none=>none
def wo:List aN->Option aN
 | []=>none
 | [o]=>some o
 | _::r=>wo r
def uY:List aN->List aN
 | []=>[]
 | [_]=>[]
 | o::r=>o::uY r
def r6 (B:Nat):List aN->AT aN->RT
 | p,.nil=>.leaf (fC B p)
 | p,.cons o t=>r6 B (p++[o]) t
 | p,.br x y=>.node (fC B p) (r6 B [] x) (r6 B [] y)
def rZ (B:Nat):AT aN->DT
 | .nil=>.die (.kT false 0 .bad)
 | .cons o t=>bif oZ o then .die (toR B o)else .step (toR B o) (rZ B t)
 | .br x y=>.br (rZ B x) (rZ B y)
def ways (k:Option Nat):AC->Nat
 | .skip | .bN _ | .cO _ _ | .label _ | .fP _=>match k with
  | none=>1
  | some _=>0
 | .alt _ _ _ | .eR _ _ _ _ | .fg _=>match k with
  | none=>2
  | some _=>0
 | .eZ ops=>match k,wo ops with
  | none,some ⟨_,_,_,_,.gm _⟩=>0
  | none,_=>1
  | _,_=>0
 | .bad | .ret | .goto _=>0
 | .exit i=>match k with
  | some j=>bif Nat.beq i j then 1 else 0
  | none=>0
 | .seq (.fP _) (.block _ (.fQ _ _ _ body))=>match k with
  | none=>1
  | some j=>ways (some j) body
 | .seq x y=>match k with
  | none=>bif Nat.beq (ways none x) 0 then 0 else ways none y
  | some j=>ways (some j) x+bif Nat.beq (ways none x) 0 then 0 else ways (some j) y
 | .cond _ x y=>ways k x+ways k y
 | .block i x=>match k with
  | none=>ways none x+ways (some i) x
  | some j=>bif Nat.beq i j then 0 else ways (some j) x
 | .loop x=>match k with
  | none=>0
  | some j=>ways (some j) x
 | .scope x=>ways k x
 | .fQ _ _ _ _=>0
def size:AC->Nat
 | .bN ops | .eZ ops | .fP ops=>ops.length
 | .alt p x _ | .eR p x _ _=>p.length+x.length
 | .fg _=>8
 | .seq (.fP _) (.block _ (.fQ _ _ _ _))=>1000
 | .seq x y=>size x+size y
 | .cond _ x y=>size x+size y
 | .block _ x=>size x
 | .scope x=>size x
 | .loop x=>1000+size x
 | _=>0
def nt:AC->Nat
 | .bN (o::_) | .eZ (o::_) | .fP (o::_) | .alt (o::_) _ _ | .eR (o::_) _ _ _ | .fg (.cons o _)=>o.id
 | .seq x _=>nt x
 | .cond _ x _=>nt x
 | .block _ x=>nt x
 | .loop x=>nt x
 | .scope x=>nt x
 | _=>0
def OJ (ms:L) (x y:AC):Bool:=
 (Nat.ble 2 (ways none x)&&Nat.ble 6 (size y)&&match y with
  | .ret | .exit _ | .skip=>false
  | _=>true)||ms.any (Nat.beq (nt y))
def ou:X->L
 | []=>[]
 | (_,v)::r=>dD v (ou r)
def rI:L->L
 | []=>[]
 | a::r=>(3000000+a)::rI r
def mr (g:L):X->X
 | []=>[]
 | (k,_)::r=>(k,g)::mr g r
def outer (q0:Nat) (ps:L):L->L
 | []=>[]
 | a::r=>bif Nat.ble 2000000 a||Nat.beq a q0||ps.any (Nat.beq a)then outer q0 ps r else a::outer q0 ps r
structure RP where
 ops:List aN
 d:Nat
 f:Nat
 x:Nat
 ch:Option UInt8
 q0:Nat
def Dx (ops:List aN) (asg:AC):Option RP:=
 match wo ops,asg with
 | some ⟨some d,_,_,_,.call f [.t x,.c (.str [c])]⟩,.bN [⟨some q0,_,_,_,_⟩]=>some ⟨uY ops,d,f,x,some c,q0⟩
 | some ⟨some d,_,_,_,.call f [.t x]⟩,.bN [⟨some q0,_,_,_,_⟩]=>some ⟨uY ops,d,f,x,none,q0⟩
 | _,_=>none
def ft (lr:L) (ex:X):AC->L->X->L×X
 | .skip,l,g=>(l,g)
 | .bad,_,g=>([],g)
 | .ret,_,g=>(lr,g)
 | .exit i,_,g=>(look i ex,g)
 | .goto i,_,g=>(look i g,g)
 | .label i,l,g=>(l,(i,l)::g)
 | .scope x,l,g => 
  let g1:=(ft lr ex x l g).2;let g2:=(ft lr ex x l g1).2;let g3:=(ft lr ex x l g2).2;((ft lr ex x l g3).1,g)
 | .cO _ xs,l,g=>(dD (tL xs) l,g)
 | .fg T,l,g=>(qQ l T,g)
 | .bN ops,l,g | .fP ops,l,g=>(bk l ops,g)
 | .eZ ops,l,g=>(bk (dD lr l) ops,g)
 | .alt p x y,l,g=>(bk (dD (bk l x) (bk l y)) p,g)
 | .eR p x y _,l,g=>(bk (dD (bk (dD lr l) x) (bk (dD lr l) y)) p,g)
 | .seq (.fP ops) (.block b (.fQ _ ps asg body)),l,g=>match Dx ops asg with
  | none=>([],g)
  | some r=>
   let S0:=dD (dD l lr) (dD (ou ex) (ou g))
   let S0:=match r.ch with
    | none=>ins r.x S0
    | some _=>S0
   let G:=rI S0
   let S1:=dD (outer r.q0 ps (ft G ((b,G)::mr G ex) body G (mr G g)).1) S0
   (bk (ins r.x (del r.d S1)) r.ops,g)
 | .seq x y,l,g=>match ft lr ex y l g with
  | (l2,g2)=>ft lr ex x l2 g2
 | .cond c x y,l,g=>match ft lr ex x l g with
  | (a,g1)=>match ft lr ex y l g1 with
   | (b,g2)=>(dD (tE c) (dD a b),g2)
 | .block i x,l,g=>((ft lr ((i,l)::ex) x l g).1,g)
 | .loop x,_,g=>ft lr ex x [] g
 | .fQ _ _ _ _,_,g=>([],g)
def jm (B:Nat) (ms lr:L) (ex:X):AC->L->X->AK
 | .skip,_,_=>.skip
 | .bad,_,_=>.bad
 | .ret,_,_=>.ret
 | .exit i,_,_=>.exit i
 | .goto i,_,_=>.goto i
 | .label i,_,_=>.label i
 | .scope x,l,g => 
  let g1:=(ft lr ex x l g).2;let g2:=(ft lr ex x l g1).2;let g3:=(ft lr ex x l g2).2;.scope (jm B ms lr ex x l g3)
 | .cO f xs,_,_=>.cO f xs
 | .fg T,l,_=>.fg (r6 B [] T) l
 | .bN ops,l,_ | .fP ops,l,_=>.bN (fC B ops) l
 | .eZ ops,l,_=>match uX ops with
  | none=>.bad
  | some (p,o,q)=>match uX q with
   | none=>.eZ (fC B p) (toR B o) (fC B q) l
   | some (q1,o2,q2)=>.nP (fC B p) (toR B o) (fC B q1) (toR B o2) (fC B q2) l
 | .alt p x y,l,_=>.alt (fC B p) (fC B x) (fC B y) l
 | .eR p x y T,l,_=>.eR (fC B p) (fC B x) (fC B y) l (rZ B T)
 | .seq (.fP ops) (.block b (.fQ _ ps asg body)),l,g=>match Dx ops asg with
  | none=>.bad
  | some r=>
   let S0:=dD (dD l lr) (dD (ou ex) (ou g))
   let S0:=match r.ch with
    | none=>ins r.x S0
    | some _=>S0
   let G:=rI S0
   let S1:=dD (outer r.q0 ps (ft G ((b,G)::mr G ex) body G (mr G g)).1) S0
   let G:=rI S1
   let y:=jm B ms G ((b,G)::mr G ex) body G (mr G g)
   match r.ch,ps with
   | some c,[p]=>.split (fC B r.ops) r.d r.f (.t r.x) c b p r.q0 y
   | none,[p1,p]=>.back (fC B r.ops) r.d r.f r.x b p1 p r.q0 y
   | _,_=>.bad
 | .seq x y,l,g=>match ft lr ex y l g with
  | (l2,g2)=>bif OJ ms x y then .seq (jm B ms lr ex x l2 g2) (.bX (jm B ms lr ex y l g))else .seq (jm B ms lr ex x l2 g2) (jm B ms lr ex y l g)
 | .cond c x y,l,g=>.cond c (jm B ms lr ex x l g) (jm B ms lr ex y l g)
 | .block i x,l,g=>.block i (jm B ms lr ((i,l)::ex) x l g)
 | .loop x,_,g=>.loop (jm B ms lr ex x (ft lr ex x [] g).1 g)
 | .fQ _ _ _ _,_,_=>.bad
def code (P:Program) (fn:Func) (B:Nat) (ms lr:L):AK:=
 match fn.body with
 | some b=>jm (1000*B) ms lr [] (trCode P fn.ntmps (1000*B) b) lr []
 | none=>.bad
def kept:Nat->L
 | 0=>[]
 | k+1=>ins (2000000+k) (kept k)
def lr (k:Nat):List RVar->L
 | []=>kept k
 | .tmp n::r | .cell n _ _::r=>ins n (lr k r)
 | .bad::r=>lr k r
def rs (P:Program) (fn:Func):List RVar:=fn.results.toList.map (trRes P)
end Kc
def AK.x:AK->AK
 | .seq x _ | .cond _ x _ | .block _ x | .loop x | .scope x | .split _ _ _ _ _ _ _ _ x | .back _ _ _ _ _ _ _ _ x=>x
 | x=>x
def AK.y:AK->AK
 | .seq _ (.bX y) | .seq _ y | .cond _ _ y=>y
 | y=>y
def BX (x y:AK):AK:=.seq x (.bX y)
theorem eo (x y:AK):AK.seq x (.bX y)=BX x y:=rfl
theorem eA (n:Nat) (h:n<2^8):(⟨⟨⟨n,h⟩⟩⟩:UInt8)=UInt8.ofNat n:=by
 apply UInt8.toNat_inj.1;simp[UInt8.toNat_ofNat];exact(ZO h).symm
theorem jn {P:Program} {E:Env} {x y:AK} {Q:KQ} {st:St}:vcW P E (BX x y) Q st=vcW P E x (KQ.seq P E (.bX y) Q) st:=(rfl)
abbrev pk {x:AK} (c:AK) (_:c=x:=by with_unfolding_all (conv=>rhs;reduce;try simp only[eo,eA,Int.reduceOfNat,Int.reduceNegSucc,UInt8.reduceOfNat])):AK:=c
section
variable {P:Program} {f:Nat} {fn:Func} {x:AK} {rs:List RVar}
namespace Kf
theorem s0 (B:Nat) (hf:P.funcs[f]?=some fn) (ms:Kc.L:=[]) (_:rs=Kc.rs P fn:=by with_unfolding_all (conv=>rhs;reduce)) (_:x=Kc.code P fn B ms (Kc.lr 0 rs):=by with_unfolding_all (conv=>rhs;reduce;try simp only[eo,eA,Int.reduceOfNat,Int.reduceNegSucc,UInt8.reduceOfNat])) (hk:fnChk P fn (1000*B) 0=some (x.erase (1000*B),rs):=by kernel_rfl) ⦃h:HP⦄ ⦃Post:HP->AV->List AV->Prop⦄ (hp:fX P x rs 0 [] h Post):Spec P f h [] Post:=iH ⟨_,hf,hk⟩ rfl [] trivial hp
theorem s1 (B:Nat) (hf:P.funcs[f]?=some fn) (ms:Kc.L:=[]) (_:rs=Kc.rs P fn:=by with_unfolding_all (conv=>rhs;reduce)) (_:x=Kc.code P fn B ms (Kc.lr 0 rs):=by with_unfolding_all (conv=>rhs;reduce;try simp only[eo,eA,Int.reduceOfNat,Int.reduceNegSucc,UInt8.reduceOfNat])) (hk:fnChk P fn (1000*B) 1=some (x.erase (1000*B),rs):=by kernel_rfl) ⦃h:HP⦄ ⦃a0:AV⦄ ⦃Post:HP->AV->List AV->Prop⦄ (hp:fX P x rs 1 [(0,a0)] h Post):Spec P f h [a0] Post:=iH ⟨_,hf,hk⟩ rfl [(0,a0)] ⟨rfl,trivial⟩ hp
theorem s2 (B:Nat) (hf:P.funcs[f]?=some fn) (ms:Kc.L:=[]) (_:rs=Kc.rs P fn:=by with_unfolding_all (conv=>rhs;reduce)) (_:x=Kc.code P fn B ms (Kc.lr 0 rs):=by with_unfolding_all (conv=>rhs;reduce;try simp only[eo,eA,Int.reduceOfNat,Int.reduceNegSucc,UInt8.reduceOfNat])) (hk:fnChk P fn (1000*B) 2=some (x.erase (1000*B),rs):=by kernel_rfl) ⦃h:HP⦄ ⦃a0 a1:AV⦄ ⦃Post:HP->AV->List AV->Prop⦄ (hp:fX P x rs 2 [(0,a0),(1,a1)] h Post):Spec P f h [a0,a1] Post:=iH ⟨_,hf,hk⟩ rfl [(0,a0),(1,a1)] ⟨rfl,rfl,trivial⟩ hp
theorem s3 (B:Nat) (hf:P.funcs[f]?=some fn) (ms:Kc.L:=[]) (_:rs=Kc.rs P fn:=by with_unfolding_all (conv=>rhs;reduce)) (_:x=Kc.code P fn B ms (Kc.lr 0 rs):=by with_unfolding_all (conv=>rhs;reduce;try simp only[eo,eA,Int.reduceOfNat,Int.reduceNegSucc,UInt8.reduceOfNat])) (hk:fnChk P fn (1000*B) 3=some (x.erase (1000*B),rs):=by kernel_rfl) ⦃h:HP⦄ ⦃a0 a1 a2:AV⦄ ⦃Post:HP->AV->List AV->Prop⦄ (hp:fX P x rs 3 [(0,a0),(1,a1),(2,a2)] h Post):Spec P f h [a0,a1,a2] Post:=iH ⟨_,hf,hk⟩ rfl [(0,a0),(1,a1),(2,a2)] ⟨rfl,rfl,rfl,trivial⟩ hp
theorem s4 (B:Nat) (hf:P.funcs[f]?=some fn) (ms:Kc.L:=[]) (_:rs=Kc.rs P fn:=by with_unfolding_all (conv=>rhs;reduce)) (_:x=Kc.code P fn B ms (Kc.lr 0 rs):=by with_unfolding_all (conv=>rhs;reduce;try simp only[eo,eA,Int.reduceOfNat,Int.reduceNegSucc,UInt8.reduceOfNat])) (hk:fnChk P fn (1000*B) 4=some (x.erase (1000*B),rs):=by kernel_rfl) ⦃h:HP⦄ ⦃a0 a1 a2 a3:AV⦄ ⦃Post:HP->AV->List AV->Prop⦄ (hp:fX P x rs 4 [(0,a0),(1,a1),(2,a2),(3,a3)] h Post):Spec P f h [a0,a1,a2,a3] Post:=iH ⟨_,hf,hk⟩ rfl [(0,a0),(1,a1),(2,a2),(3,a3)] ⟨rfl,rfl,rfl,rfl,trivial⟩ hp
theorem s5 (B:Nat) (hf:P.funcs[f]?=some fn) (ms:Kc.L:=[]) (_:rs=Kc.rs P fn:=by with_unfolding_all (conv=>rhs;reduce)) (_:x=Kc.code P fn B ms (Kc.lr 0 rs):=by with_unfolding_all (conv=>rhs;reduce;try simp only[eo,eA,Int.reduceOfNat,Int.reduceNegSucc,UInt8.reduceOfNat])) (hk:fnChk P fn (1000*B) 5=some (x.erase (1000*B),rs):=by kernel_rfl) ⦃h:HP⦄ ⦃a0 a1 a2 a3 a4:AV⦄ ⦃Post:HP->AV->List AV->Prop⦄ (hp:fX P x rs 5 [(0,a0),(1,a1),(2,a2),(3,a3),(4,a4)] h Post):Spec P f h [a0,a1,a2,a3,a4] Post:=iH ⟨_,hf,hk⟩ rfl [(0,a0),(1,a1),(2,a2),(3,a3),(4,a4)] ⟨rfl,rfl,rfl,rfl,rfl,trivial⟩ hp
theorem s6 (B:Nat) (hf:P.funcs[f]?=some fn) (ms:Kc.L:=[]) (_:rs=Kc.rs P fn:=by with_unfolding_all (conv=>rhs;reduce)) (_:x=Kc.code P fn B ms (Kc.lr 0 rs):=by with_unfolding_all (conv=>rhs;reduce;try simp only[eo,eA,Int.reduceOfNat,Int.reduceNegSucc,UInt8.reduceOfNat])) (hk:fnChk P fn (1000*B) 6=some (x.erase (1000*B),rs):=by kernel_rfl) ⦃h:HP⦄ ⦃a0 a1 a2 a3 a4 a5:AV⦄ ⦃Post:HP->AV->List AV->Prop⦄ (hp:fX P x rs 6 [(0,a0),(1,a1),(2,a2),(3,a3),(4,a4),(5,a5)] h Post):Spec P f h [a0,a1,a2,a3,a4,a5] Post:=iH ⟨_,hf,hk⟩ rfl [(0,a0),(1,a1),(2,a2),(3,a3),(4,a4),(5,a5)] ⟨rfl,rfl,rfl,rfl,rfl,rfl,trivial⟩ hp
theorem k1 (B:Nat) (hf:P.funcs[f]?=some fn) (ms:Kc.L:=[]) (_:rs=Kc.rs P fn:=by with_unfolding_all (conv=>rhs;reduce)) (_:x=Kc.code P fn B ms (Kc.lr 1 rs):=by with_unfolding_all (conv=>rhs;reduce;try simp only[eo,eA,Int.reduceOfNat,Int.reduceNegSucc,UInt8.reduceOfNat])) (hk:fnChk P fn (1000*B) 1=some (x.erase (1000*B),rs):=by kernel_rfl) ⦃h:HP⦄ ⦃a0:AV⦄ ⦃Post:HP->AV->List AV->Prop⦄ (hp:fX P x rs 1 [(0,a0),(2000000,a0)] h Post):Spec P f h [a0] Post:=iH ⟨_,hf,hk⟩ rfl [(0,a0),(2000000,a0)] ⟨rfl,rfl,trivial⟩ hp
theorem k2 (B:Nat) (hf:P.funcs[f]?=some fn) (ms:Kc.L:=[]) (_:rs=Kc.rs P fn:=by with_unfolding_all (conv=>rhs;reduce)) (_:x=Kc.code P fn B ms (Kc.lr 2 rs):=by with_unfolding_all (conv=>rhs;reduce;try simp only[eo,eA,Int.reduceOfNat,Int.reduceNegSucc,UInt8.reduceOfNat])) (hk:fnChk P fn (1000*B) 2=some (x.erase (1000*B),rs):=by kernel_rfl) ⦃h:HP⦄ ⦃a0 a1:AV⦄ ⦃Post:HP->AV->List AV->Prop⦄ (hp:fX P x rs 2 [(0,a0),(1,a1),(2000000,a0),(2000001,a1)] h Post):Spec P f h [a0,a1] Post:=iH ⟨_,hf,hk⟩ rfl [(0,a0),(1,a1),(2000000,a0),(2000001,a1)] ⟨rfl,rfl,rfl,rfl,trivial⟩ hp
theorem k3 (B:Nat) (hf:P.funcs[f]?=some fn) (ms:Kc.L:=[]) (_:rs=Kc.rs P fn:=by with_unfolding_all (conv=>rhs;reduce)) (_:x=Kc.code P fn B ms (Kc.lr 3 rs):=by with_unfolding_all (conv=>rhs;reduce;try simp only[eo,eA,Int.reduceOfNat,Int.reduceNegSucc,UInt8.reduceOfNat])) (hk:fnChk P fn (1000*B) 3=some (x.erase (1000*B),rs):=by kernel_rfl) ⦃h:HP⦄ ⦃a0 a1 a2:AV⦄ ⦃Post:HP->AV->List AV->Prop⦄ (hp:fX P x rs 3 [(0,a0),(1,a1),(2,a2),(2000000,a0),(2000001,a1),(2000002,a2)] h Post):Spec P f h [a0,a1,a2] Post:=iH ⟨_,hf,hk⟩ rfl [(0,a0),(1,a1),(2,a2),(2000000,a0),(2000001,a1),(2000002,a2)] ⟨rfl,rfl,rfl,rfl,rfl,rfl,trivial⟩ hp
theorem k4 (B:Nat) (hf:P.funcs[f]?=some fn) (ms:Kc.L:=[]) (_:rs=Kc.rs P fn:=by with_unfolding_all (conv=>rhs;reduce)) (_:x=Kc.code P fn B ms (Kc.lr 4 rs):=by with_unfolding_all (conv=>rhs;reduce;try simp only[eo,eA,Int.reduceOfNat,Int.reduceNegSucc,UInt8.reduceOfNat])) (hk:fnChk P fn (1000*B) 4=some (x.erase (1000*B),rs):=by kernel_rfl) ⦃h:HP⦄ ⦃a0 a1 a2 a3:AV⦄ ⦃Post:HP->AV->List AV->Prop⦄ (hp:fX P x rs 4 [(0,a0),(1,a1),(2,a2),(3,a3),(2000000,a0),(2000001,a1),(2000002,a2),(2000003,a3)] h Post):Spec P f h [a0,a1,a2,a3] Post:=iH ⟨_,hf,hk⟩ rfl [(0,a0),(1,a1),(2,a2),(3,a3),(2000000,a0),(2000001,a1),(2000002,a2),(2000003,a3)] ⟨rfl,rfl,rfl,rfl,rfl,rfl,rfl,rfl,trivial⟩ hp
theorem k5 (B:Nat) (hf:P.funcs[f]?=some fn) (ms:Kc.L:=[]) (_:rs=Kc.rs P fn:=by with_unfolding_all (conv=>rhs;reduce)) (_:x=Kc.code P fn B ms (Kc.lr 5 rs):=by with_unfolding_all (conv=>rhs;reduce;try simp only[eo,eA,Int.reduceOfNat,Int.reduceNegSucc,UInt8.reduceOfNat])) (hk:fnChk P fn (1000*B) 5=some (x.erase (1000*B),rs):=by kernel_rfl) ⦃h:HP⦄ ⦃a0 a1 a2 a3 a4:AV⦄ ⦃Post:HP->AV->List AV->Prop⦄ (hp:fX P x rs 5 [(0,a0),(1,a1),(2,a2),(3,a3),(4,a4),(2000000,a0),(2000001,a1),(2000002,a2),(2000003,a3),(2000004,a4)] h Post):Spec P f h [a0,a1,a2,a3,a4] Post:=iH ⟨_,hf,hk⟩ rfl [(0,a0),(1,a1),(2,a2),(3,a3),(4,a4),(2000000,a0),(2000001,a1),(2000002,a2),(2000003,a3),(2000004,a4)] ⟨rfl,rfl,rfl,rfl,rfl,rfl,rfl,rfl,rfl,rfl,trivial⟩ hp
theorem r0 (B:Nat) (hf:P.funcs[f]?=some fn) (ms:Kc.L:=[]) (_:rs=Kc.rs P fn:=by with_unfolding_all (conv=>rhs;reduce)) (_:x=Kc.code P fn B ms (Kc.lr 0 rs):=by with_unfolding_all (conv=>rhs;reduce;try simp only[eo,eA,Int.reduceOfNat,Int.reduceNegSucc,UInt8.reduceOfNat])) (hk:fnChk P fn (1000*B) 0=some (x.erase (1000*B),rs):=by kernel_rfl) ⦃h:HP⦄ ⦃Post:HP->AV->List AV->Prop⦄ (hp:mJ P x rs 0 [] h Post):Spec P f h [] Post:=qf ⟨_,hf,hk⟩ rfl [] trivial hp
theorem r1 (B:Nat) (hf:P.funcs[f]?=some fn) (ms:Kc.L:=[]) (_:rs=Kc.rs P fn:=by with_unfolding_all (conv=>rhs;reduce)) (_:x=Kc.code P fn B ms (Kc.lr 0 rs):=by with_unfolding_all (conv=>rhs;reduce;try simp only[eo,eA,Int.reduceOfNat,Int.reduceNegSucc,UInt8.reduceOfNat])) (hk:fnChk P fn (1000*B) 1=some (x.erase (1000*B),rs):=by kernel_rfl) ⦃h:HP⦄ ⦃a0:AV⦄ ⦃Post:HP->AV->List AV->Prop⦄ (hp:mJ P x rs 1 [(0,a0)] h Post):Spec P f h [a0] Post:=qf ⟨_,hf,hk⟩ rfl [(0,a0)] ⟨rfl,trivial⟩ hp
theorem r2 (B:Nat) (hf:P.funcs[f]?=some fn) (ms:Kc.L:=[]) (_:rs=Kc.rs P fn:=by with_unfolding_all (conv=>rhs;reduce)) (_:x=Kc.code P fn B ms (Kc.lr 0 rs):=by with_unfolding_all (conv=>rhs;reduce;try simp only[eo,eA,Int.reduceOfNat,Int.reduceNegSucc,UInt8.reduceOfNat])) (hk:fnChk P fn (1000*B) 2=some (x.erase (1000*B),rs):=by kernel_rfl) ⦃h:HP⦄ ⦃a0 a1:AV⦄ ⦃Post:HP->AV->List AV->Prop⦄ (hp:mJ P x rs 2 [(0,a0),(1,a1)] h Post):Spec P f h [a0,a1] Post:=qf ⟨_,hf,hk⟩ rfl [(0,a0),(1,a1)] ⟨rfl,rfl,trivial⟩ hp
theorem r3 (B:Nat) (hf:P.funcs[f]?=some fn) (ms:Kc.L:=[]) (_:rs=Kc.rs P fn:=by with_unfolding_all (conv=>rhs;reduce)) (_:x=Kc.code P fn B ms (Kc.lr 0 rs):=by with_unfolding_all (conv=>rhs;reduce;try simp only[eo,eA,Int.reduceOfNat,Int.reduceNegSucc,UInt8.reduceOfNat])) (hk:fnChk P fn (1000*B) 3=some (x.erase (1000*B),rs):=by kernel_rfl) ⦃h:HP⦄ ⦃a0 a1 a2:AV⦄ ⦃Post:HP->AV->List AV->Prop⦄ (hp:mJ P x rs 3 [(0,a0),(1,a1),(2,a2)] h Post):Spec P f h [a0,a1,a2] Post:=qf ⟨_,hf,hk⟩ rfl [(0,a0),(1,a1),(2,a2)] ⟨rfl,rfl,rfl,trivial⟩ hp
theorem x1 (B:Nat) (hf:P.funcs[f]?=some fn) (ms:Kc.L:=[]) (_:rs=Kc.rs P fn:=by with_unfolding_all (conv=>rhs;reduce)) (_:x=Kc.code P fn B ms (Kc.lr 1 rs):=by with_unfolding_all (conv=>rhs;reduce;try simp only[eo,eA,Int.reduceOfNat,Int.reduceNegSucc,UInt8.reduceOfNat])) (hk:fnChk P fn (1000*B) 1=some (x.erase (1000*B),rs):=by kernel_rfl) ⦃h:HP⦄ ⦃a0:AV⦄ ⦃V:Value⦄ (hp:qA P x V [(0,a0),(2000000,a0)] h):dW P f h [a0] V:=xT ⟨_,hf,hk⟩ rfl [(0,a0),(2000000,a0)] ⟨rfl,rfl,trivial⟩ hp
theorem x2 (B:Nat) (hf:P.funcs[f]?=some fn) (ms:Kc.L:=[]) (_:rs=Kc.rs P fn:=by with_unfolding_all (conv=>rhs;reduce)) (_:x=Kc.code P fn B ms (Kc.lr 2 rs):=by with_unfolding_all (conv=>rhs;reduce;try simp only[eo,eA,Int.reduceOfNat,Int.reduceNegSucc,UInt8.reduceOfNat])) (hk:fnChk P fn (1000*B) 2=some (x.erase (1000*B),rs):=by kernel_rfl) ⦃h:HP⦄ ⦃a0 a1:AV⦄ ⦃V:Value⦄ (hp:qA P x V [(0,a0),(1,a1),(2000000,a0),(2000001,a1)] h):dW P f h [a0,a1] V:=xT ⟨_,hf,hk⟩ rfl [(0,a0),(1,a1),(2000000,a0),(2000001,a1)] ⟨rfl,rfl,rfl,rfl,trivial⟩ hp
theorem x3 (B:Nat) (hf:P.funcs[f]?=some fn) (ms:Kc.L:=[]) (_:rs=Kc.rs P fn:=by with_unfolding_all (conv=>rhs;reduce)) (_:x=Kc.code P fn B ms (Kc.lr 3 rs):=by with_unfolding_all (conv=>rhs;reduce;try simp only[eo,eA,Int.reduceOfNat,Int.reduceNegSucc,UInt8.reduceOfNat])) (hk:fnChk P fn (1000*B) 3=some (x.erase (1000*B),rs):=by kernel_rfl) ⦃h:HP⦄ ⦃a0 a1 a2:AV⦄ ⦃V:Value⦄ (hp:qA P x V [(0,a0),(1,a1),(2,a2),(2000000,a0),(2000001,a1),(2000002,a2)] h):dW P f h [a0,a1,a2] V:=xT ⟨_,hf,hk⟩ rfl [(0,a0),(1,a1),(2,a2),(2000000,a0),(2000001,a1),(2000002,a2)] ⟨rfl,rfl,rfl,rfl,rfl,rfl,trivial⟩ hp
end Kf
end
end Go.Proofs.YtkdjbebgdoohjaaGreatDoor.Eng
