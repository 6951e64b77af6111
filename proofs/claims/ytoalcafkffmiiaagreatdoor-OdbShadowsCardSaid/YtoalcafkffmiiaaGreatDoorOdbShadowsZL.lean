/- The proof, part 38 of 43. -/
import Derived.Test.YtoalcafkffmiiaaGreatDoorOdbShadowsZE
import Derived.Test.YtoalcafkffmiiaaGreatDoorProg
import Derived.KernelRfl
import Derived.Tactics
set_option linter.all false
namespace Go.Proofs.YtoalcafkffmiiaaGreatDoor.Pk
open Eng Eng.Kz
set_option maxRecDepth 100000
theorem aw6 {vs:Array Value} (h:vs.size=2):∃v0 v1,vs=#[v0,v1]:=by
 obtain⟨l⟩:=vs
 match l,h with
 | [a,b],_=>exact⟨a,b,rfl⟩
open Eng Sh
set_option maxRecDepth 10000
def headR (b:Bs):Nat->Nat->Nat->Nat->Nat×Nat×Nat
 | 0,p,_,_=>if b.length<=p then(0,0,6)else(0,0,3)
 | m+1,p,size,sh=>if b.length<=p then(0,0,6)else if(b.getD p 0).toNat<128 then(size+(b.getD p 0).toNat%128*2^sh,p+1,0)else headR b m (p+1) (size+(b.getD p 0).toNat%128*2^sh) (sh+7)
def mn (b:Bs) (p:Nat):Nat×Nat×Nat×Nat:=
 if b.length<=p then(0,0,0,6)else if(b.getD p 0).toNat<128 then((b.getD p 0).toNat/16%8,(b.getD p 0).toNat%16,p+1,0)else
 if(headR b 4 (p+1) ((b.getD p 0).toNat%16) 4).2.2≠0 then(0,0,0,(headR b 4 (p+1) ((b.getD p 0).toNat%16) 4).2.2)else
 ((b.getD p 0).toNat/16%8,(headR b 4 (p+1) ((b.getD p 0).toNat%16) 4).1,(headR b 4 (p+1) ((b.getD p 0).toNat%16) 4).2.1,0)
def v7 (b:Bs):Nat->Nat->Nat->Nat×Nat×Nat
 | 0,_,_=>(0,0,6)
 | k+1,p,n=>if b.length<=p then(0,0,6)else if(b.getD p 0).toNat<128 then(n+(b.getD p 0).toNat%128,p+1,0)else if 16777216<n+(b.getD p 0).toNat%128 then(0,0,3)else v7 b k (p+1) ((n+(b.getD p 0).toNat%128+1)*128)
def lX (b:Bs) (p:Nat):Nat×Nat×Nat:=v7 b (b.length+1-p) p 0
structure En where
 at_:Nat
 next:Nat
 kind:Nat
 data:Bs
 base:Nat
 id:Bs
 crc:W
def ma:En:=⟨0,0,0,[],0,[],0#32⟩
def aaF (b:Bs) (p k q:Nat):Nat×Bs×Nat×Nat:=
 if 1<=k/\k<=4 then(0,[],q,0)else
 if k=6 then(if(lX b q).2.2≠0 then(0,[],0,(lX b q).2.2)else if(lX b q).1<1\/p-12<(lX b q).1 then(0,[],0,3)else(p-(lX b q).1,[],(lX b q).2.1,0))else
 if k=7 then(if b.length-q<20 then(0,[],0,6)else(0,bW ((b.drop q).take 20),q+20,0))else(0,[],0,10)
def Mw (b:Bs) (p:Nat) (k size:Nat) (M:Nat×Bs×Nat×Nat):En×Nat:=
 if M.2.2.2≠0 then(ma,M.2.2.2)else if 65000<size then(ma,2)else
 if(dF (b.drop M.2.2.1) size).2.2=2\/((dF (b.drop M.2.2.1) size).2.2=0/\(dF (b.drop M.2.2.1) size).1.length<size)then(ma,3)else
 if(dF (b.drop M.2.2.1) size).2.2≠0 then(ma,(dF (b.drop M.2.2.1) size).2.2)else
 (⟨p,M.2.2.1+(dF (b.drop M.2.2.1) size).2.1,k,(dF (b.drop M.2.2.1) size).1,M.1,M.2.1,Ks ((b.drop p).take (M.2.2.1+(dF (b.drop M.2.2.1) size).2.1-p))⟩,0)
def apL (b:Bs) (p:Nat):En×Nat:=
 if(mn b p).2.2.2≠0 then(ma,(mn b p).2.2.2)else Mw b p (mn b p).1 (mn b p).2.1 (aaF b p (mn b p).1 (mn b p).2.2.1)
def readP (s:Bs) (a:Int):En×Nat:=if a<12\/(s.length:Int)-20<a then(ma,1)else apL (s.take (s.length-20)) a.toNat
end Go.Proofs.YtoalcafkffmiiaaGreatDoor.Pk
