/- The proof, part 7 of 51. -/
import Derived.Test.YtgghhaahnpbnmaaGreatDoorCartularyWalksF
set_option linter.all false
namespace Go.Proofs.YtgghhaahnpbnmaaGreatDoor.Eng
def cu (b:Bool) (x:AV):AV:=match b with
 | true=>.undef
 | false=>x
def kg (b:Bool) (x y:AV):AV:=match b with
 | true=>x
 | false=>y
theorem gA {i j:Nat} {x:AV}:(if i=j then AV.undef else x)=cu (i==j) x:=by
 by_cases h:i=j
 ·subst h;rw[if_pos rfl,show(i==i)=true by simp];rfl
 ·rw[if_neg h,show(i==j)=false by simp[h]];rfl
theorem xO {i j:Nat} {x y:AV}:(if i=j then x else y)=kg (i==j) x y:=by
 by_cases h:i=j
 ·subst h;rw[if_pos rfl,show(i==i)=true by simp];rfl
 ·rw[if_neg h,show(i==j)=false by simp[h]];rfl
theorem kM {b:Bool} {x:AV}:(if b=true then AV.undef else x)=cu b x:=by cases b<;>rfl
theorem xP {b:Bool} {x y:AV}:(if b=true then x else y)=kg b x y:=by cases b<;>rfl
theorem LZ {x:AV}:cu true x=.undef:=(rfl)
theorem LY {x:AV}:cu false x=x:=(rfl)
theorem YH {x y:AV}:kg true x y=x:=(rfl)
theorem YG {x y:AV}:kg false x y=y:=(rfl)
def borSl (W:Option aC) (o n:Nat):AV:=match W with
 | some (.arr sz es)=>.ro sz (aB es o n)
 | _=>.undef
theorem Ke {sz o n:Nat} {es:List AV}:borSl (some (.arr sz es)) o n=.ro sz (aB es o n):=(rfl)
def keepO (W:Option aC) (x y:AV):AV:=match W with
 | some _=>x
 | none=>y
theorem R7 {W:aC} {x y:AV}:keepO (some W) x y=x:=(rfl)
theorem R6 {x y:AV}:keepO none x y=y:=(rfl)
def borV (h0 h:HP) (W:Option aC) (f:Nat):AV:=match W,f with
 | some (.var cs),0=>.ao (packC (cs.map (bcell h0 h)))
 | _,_=>.undef
theorem Kg {h0 h:HP} {cs:List AV}:borV h0 h (some (.var cs)) 0=.ao (packC (cs.map (bcell h0 h))):=(rfl)
theorem Sc (id:Nat) :
 (killC id AV.undef=AV.undef) /\
 (∀(b:Bool),killC id (.bool b)=(.bool b)) /\
 (∀(k:IntKind) (n:Int),killC id (.int k n)=(.int k n)) /\
 (∀(k:FloatKind) (n:Nat),killC id (.fl k n)=(.fl k n)) /\
 (∀(k:FloatKind) (a b:Nat),killC id (.cx k a b)=(.cx k a b)) /\
 (∀(l:List UInt8),killC id (.str l)=(.str l)) /\
 (∀(x:Value),killC id (.lit x)=(.lit x)) /\
 (killC id AV.an=AV.an) /\
 (∀(sz0:Nat) (es0:List AV),killC id (.ro sz0 es0)=(.ro sz0 es0)) /\
 (∀(x:AV),killC id (.ao x)=(.ao x)) /\
 (∀(i o n:Nat),killC id (.sl i o n)=cu (i==id) (.sl i o n)) /\
 (∀(i j f:Nat),killC id (.ptr i j f)=cu (i==id) (.ptr i j f)) /\
 (∀(i f:Nat),killC id (.aa i f)=cu (i==id) (.aa i f)) /\
 (∀(cs:List AV),killC id (.agg cs)=AV.undef) /\
 (∀(cs:List AV),killC id (.ab cs)=AV.undef) /\
 (∀(b:Bool) (x:AV),killC id (.gd b x)=AV.undef) /\
 (∀(f:Nat) (cs:List AV),killC id (.aA f cs)=AV.undef):=
 ⟨rfl,λ_=>rfl,λ_ _=>rfl,λ_ _=>rfl,λ_ _ _=>rfl,λ_=>rfl,λ_=>rfl,rfl,λ_ _=>rfl,λ_=>rfl,λ_ _ _=>gA,λ_ _ _=>gA,λ_ _=>gA,λ_=>rfl,λ_=>rfl,λ_ _=>rfl,λ_ _=>rfl⟩
theorem Sb (id:Nat) :
 (killA id AV.undef=AV.undef) /\
 (∀(b:Bool),killA id (.bool b)=(.bool b)) /\
 (∀(k:IntKind) (n:Int),killA id (.int k n)=(.int k n)) /\
 (∀(k:FloatKind) (n:Nat),killA id (.fl k n)=(.fl k n)) /\
 (∀(k:FloatKind) (a b:Nat),killA id (.cx k a b)=(.cx k a b)) /\
 (∀(l:List UInt8),killA id (.str l)=(.str l)) /\
 (∀(x:Value),killA id (.lit x)=(.lit x)) /\
 (killA id AV.an=AV.an) /\
 (∀(sz0:Nat) (es0:List AV),killA id (.ro sz0 es0)=(.ro sz0 es0)) /\
 (∀(x:AV),killA id (.ao x)=(.ao x)) /\
 (∀(i o n:Nat),killA id (.sl i o n)=cu (i==id) (.sl i o n)) /\
 (∀(i j f:Nat),killA id (.ptr i j f)=cu (i==id) (.ptr i j f)) /\
 (∀(i f:Nat),killA id (.aa i f)=cu (i==id) (.aa i f)) /\
 (∀(cs:List AV),killA id (.agg cs)=.agg (cs.map (killC id))) /\
 (∀(cs:List AV),killA id (.ab cs)=AV.undef) /\
 (∀(b:Bool) (x:AV),killA id (.gd b x)=AV.undef) /\
 (∀(f:Nat) (cs:List AV),killA id (.aA f cs)=.aA f (cs.map (killC id))):=
 ⟨rfl,λ_=>rfl,λ_ _=>rfl,λ_ _=>rfl,λ_ _ _=>rfl,λ_=>rfl,λ_=>rfl,rfl,λ_ _=>rfl,λ_=>rfl,λ_ _ _=>gA,λ_ _ _=>gA,λ_ _=>gA,λ_=>rfl,λ_=>rfl,λ_ _=>rfl,λ_ _=>rfl⟩
theorem Sm (id:Nat) :
 (kill id AV.undef=AV.undef) /\
 (∀(b:Bool),kill id (.bool b)=(.bool b)) /\
 (∀(k:IntKind) (n:Int),kill id (.int k n)=(.int k n)) /\
 (∀(k:FloatKind) (n:Nat),kill id (.fl k n)=(.fl k n)) /\
 (∀(k:FloatKind) (a b:Nat),kill id (.cx k a b)=(.cx k a b)) /\
 (∀(l:List UInt8),kill id (.str l)=(.str l)) /\
 (∀(x:Value),kill id (.lit x)=(.lit x)) /\
 (kill id AV.an=AV.an) /\
 (∀(sz0:Nat) (es0:List AV),kill id (.ro sz0 es0)=(.ro sz0 es0)) /\
 (∀(x:AV),kill id (.ao x)=(.ao x)) /\
 (∀(i o n:Nat),kill id (.sl i o n)=cu (i==id) (.sl i o n)) /\
 (∀(i j f:Nat),kill id (.ptr i j f)=cu (i==id) (.ptr i j f)) /\
 (∀(i f:Nat),kill id (.aa i f)=cu (i==id) (.aa i f)) /\
 (∀(cs:List AV),kill id (.agg cs)=.agg (cs.map (killC id))) /\
 (∀(cs:List AV),kill id (.ab cs)=.ab (cs.map (killA id))) /\
 (∀(b:Bool) (x:AV),kill id (.gd b x)=.gd b (killA id x)) /\
 (∀(f:Nat) (cs:List AV),kill id (.aA f cs)=.aA f (cs.map (killC id))):=
 ⟨rfl,λ_=>rfl,λ_ _=>rfl,λ_ _=>rfl,λ_ _ _=>rfl,λ_=>rfl,λ_=>rfl,rfl,λ_ _=>rfl,λ_=>rfl,λ_ _ _=>gA,λ_ _ _=>gA,λ_ _=>gA,λ_=>rfl,λ_=>rfl,λ_ _=>rfl,λ_ _=>rfl⟩
theorem OT (id sz:Nat) (es:List AV) :
 (bR id sz es AV.undef=AV.undef) /\
 (∀(b:Bool),bR id sz es (.bool b)=(.bool b)) /\
 (∀(k:IntKind) (n:Int),bR id sz es (.int k n)=(.int k n)) /\
 (∀(k:FloatKind) (n:Nat),bR id sz es (.fl k n)=(.fl k n)) /\
 (∀(k:FloatKind) (a b:Nat),bR id sz es (.cx k a b)=(.cx k a b)) /\
 (∀(l:List UInt8),bR id sz es (.str l)=(.str l)) /\
 (∀(x:Value),bR id sz es (.lit x)=(.lit x)) /\
 (bR id sz es AV.an=AV.an) /\
 (∀(sz0:Nat) (es0:List AV),bR id sz es (.ro sz0 es0)=(.ro sz0 es0)) /\
 (∀(x:AV),bR id sz es (.ao x)=(.ao x)) /\
 (∀(i o n:Nat),bR id sz es (.sl i o n)=kg (i==id) (.ro sz (aB es o n)) (.sl i o n)) /\
 (∀(i j f:Nat),bR id sz es (.ptr i j f)=cu (i==id) (.ptr i j f)) /\
 (∀(i f:Nat),bR id sz es (.aa i f)=cu (i==id) (.aa i f)) /\
 (∀(cs:List AV),bR id sz es (.agg cs)=AV.undef) /\
 (∀(cs:List AV),bR id sz es (.ab cs)=AV.undef) /\
 (∀(b:Bool) (x:AV),bR id sz es (.gd b x)=AV.undef) /\
 (∀(f:Nat) (cs:List AV),bR id sz es (.aA f cs)=AV.undef):=
 ⟨rfl,λ_=>rfl,λ_ _=>rfl,λ_ _=>rfl,λ_ _ _=>rfl,λ_=>rfl,λ_=>rfl,rfl,λ_ _=>rfl,λ_=>rfl,λ_ _ _=>xO,λ_ _ _=>gA,λ_ _=>gA,λ_=>rfl,λ_=>rfl,λ_ _=>rfl,λ_ _=>rfl⟩
theorem OS (id sz:Nat) (es:List AV) :
 (cO id sz es AV.undef=AV.undef) /\
 (∀(b:Bool),cO id sz es (.bool b)=(.bool b)) /\
 (∀(k:IntKind) (n:Int),cO id sz es (.int k n)=(.int k n)) /\
 (∀(k:FloatKind) (n:Nat),cO id sz es (.fl k n)=(.fl k n)) /\
 (∀(k:FloatKind) (a b:Nat),cO id sz es (.cx k a b)=(.cx k a b)) /\
 (∀(l:List UInt8),cO id sz es (.str l)=(.str l)) /\
 (∀(x:Value),cO id sz es (.lit x)=(.lit x)) /\
 (cO id sz es AV.an=AV.an) /\
 (∀(sz0:Nat) (es0:List AV),cO id sz es (.ro sz0 es0)=(.ro sz0 es0)) /\
 (∀(x:AV),cO id sz es (.ao x)=(.ao x)) /\
 (∀(i o n:Nat),cO id sz es (.sl i o n)=kg (i==id) (.ro sz (aB es o n)) (.sl i o n)) /\
 (∀(i j f:Nat),cO id sz es (.ptr i j f)=cu (i==id) (.ptr i j f)) /\
 (∀(i f:Nat),cO id sz es (.aa i f)=cu (i==id) (.aa i f)) /\
 (∀(cs:List AV),cO id sz es (.agg cs)=.agg (cs.map (bR id sz es))) /\
 (∀(cs:List AV),cO id sz es (.ab cs)=AV.undef) /\
 (∀(b:Bool) (x:AV),cO id sz es (.gd b x)=AV.undef) /\
 (∀(f:Nat) (cs:List AV),cO id sz es (.aA f cs)=.aA f (cs.map (bR id sz es))):=
 ⟨rfl,λ_=>rfl,λ_ _=>rfl,λ_ _=>rfl,λ_ _ _=>rfl,λ_=>rfl,λ_=>rfl,rfl,λ_ _=>rfl,λ_=>rfl,λ_ _ _=>xO,λ_ _ _=>gA,λ_ _=>gA,λ_=>rfl,λ_=>rfl,λ_ _=>rfl,λ_ _=>rfl⟩
theorem O0 (id sz:Nat) (es:List AV) :
 (bn id sz es AV.undef=AV.undef) /\
 (∀(b:Bool),bn id sz es (.bool b)=(.bool b)) /\
 (∀(k:IntKind) (n:Int),bn id sz es (.int k n)=(.int k n)) /\
 (∀(k:FloatKind) (n:Nat),bn id sz es (.fl k n)=(.fl k n)) /\
 (∀(k:FloatKind) (a b:Nat),bn id sz es (.cx k a b)=(.cx k a b)) /\
 (∀(l:List UInt8),bn id sz es (.str l)=(.str l)) /\
 (∀(x:Value),bn id sz es (.lit x)=(.lit x)) /\
 (bn id sz es AV.an=AV.an) /\
 (∀(sz0:Nat) (es0:List AV),bn id sz es (.ro sz0 es0)=(.ro sz0 es0)) /\
 (∀(x:AV),bn id sz es (.ao x)=(.ao x)) /\
 (∀(i o n:Nat),bn id sz es (.sl i o n)=kg (i==id) (.ro sz (aB es o n)) (.sl i o n)) /\
 (∀(i j f:Nat),bn id sz es (.ptr i j f)=cu (i==id) (.ptr i j f)) /\
 (∀(i f:Nat),bn id sz es (.aa i f)=cu (i==id) (.aa i f)) /\
 (∀(cs:List AV),bn id sz es (.agg cs)=.agg (cs.map (bR id sz es))) /\
 (∀(cs:List AV),bn id sz es (.ab cs)=.ab (cs.map (cO id sz es))) /\
 (∀(b:Bool) (x:AV),bn id sz es (.gd b x)=.gd b (cO id sz es x)) /\
 (∀(f:Nat) (cs:List AV),bn id sz es (.aA f cs)=.aA f (cs.map (bR id sz es))):=
 ⟨rfl,λ_=>rfl,λ_ _=>rfl,λ_ _=>rfl,λ_ _ _=>rfl,λ_=>rfl,λ_=>rfl,rfl,λ_ _=>rfl,λ_=>rfl,λ_ _ _=>xO,λ_ _ _=>gA,λ_ _=>gA,λ_=>rfl,λ_=>rfl,λ_ _=>rfl,λ_ _=>rfl⟩
theorem Xx (id id':Nat) :
 (bS id id' AV.undef=AV.undef) /\
 (∀(b:Bool),bS id id' (.bool b)=(.bool b)) /\
 (∀(k:IntKind) (n:Int),bS id id' (.int k n)=(.int k n)) /\
 (∀(k:FloatKind) (n:Nat),bS id id' (.fl k n)=(.fl k n)) /\
 (∀(k:FloatKind) (a b:Nat),bS id id' (.cx k a b)=(.cx k a b)) /\
 (∀(l:List UInt8),bS id id' (.str l)=(.str l)) /\
 (∀(x:Value),bS id id' (.lit x)=(.lit x)) /\
 (bS id id' AV.an=AV.an) /\
 (∀(sz0:Nat) (es0:List AV),bS id id' (.ro sz0 es0)=(.ro sz0 es0)) /\
 (∀(x:AV),bS id id' (.ao x)=(.ao x)) /\
 (∀(i o n:Nat),bS id id' (.sl i o n)=.sl (rn id id' i) o n) /\
 (∀(i j f:Nat),bS id id' (.ptr i j f)=.ptr (rn id id' i) j f) /\
 (∀(i f:Nat),bS id id' (.aa i f)=.aa (rn id id' i) f) /\
 (∀(cs:List AV),bS id id' (.agg cs)=AV.undef) /\
 (∀(cs:List AV),bS id id' (.ab cs)=AV.undef) /\
 (∀(b:Bool) (x:AV),bS id id' (.gd b x)=AV.undef) /\
 (∀(f:Nat) (cs:List AV),bS id id' (.aA f cs)=AV.undef):=
 ⟨rfl,λ_=>rfl,λ_ _=>rfl,λ_ _=>rfl,λ_ _ _=>rfl,λ_=>rfl,λ_=>rfl,rfl,λ_ _=>rfl,λ_=>rfl,λ_ _ _=>rfl,λ_ _ _=>rfl,λ_ _=>rfl,λ_=>rfl,λ_=>rfl,λ_ _=>rfl,λ_ _=>rfl⟩
theorem Xw (id id':Nat) :
 (cH id id' AV.undef=AV.undef) /\
 (∀(b:Bool),cH id id' (.bool b)=(.bool b)) /\
 (∀(k:IntKind) (n:Int),cH id id' (.int k n)=(.int k n)) /\
 (∀(k:FloatKind) (n:Nat),cH id id' (.fl k n)=(.fl k n)) /\
 (∀(k:FloatKind) (a b:Nat),cH id id' (.cx k a b)=(.cx k a b)) /\
 (∀(l:List UInt8),cH id id' (.str l)=(.str l)) /\
 (∀(x:Value),cH id id' (.lit x)=(.lit x)) /\
 (cH id id' AV.an=AV.an) /\
 (∀(sz0:Nat) (es0:List AV),cH id id' (.ro sz0 es0)=(.ro sz0 es0)) /\
 (∀(x:AV),cH id id' (.ao x)=(.ao x)) /\
 (∀(i o n:Nat),cH id id' (.sl i o n)=.sl (rn id id' i) o n) /\
 (∀(i j f:Nat),cH id id' (.ptr i j f)=.ptr (rn id id' i) j f) /\
 (∀(i f:Nat),cH id id' (.aa i f)=.aa (rn id id' i) f) /\
 (∀(cs:List AV),cH id id' (.agg cs)=.agg (cs.map (bS id id'))) /\
 (∀(cs:List AV),cH id id' (.ab cs)=AV.undef) /\
 (∀(b:Bool) (x:AV),cH id id' (.gd b x)=AV.undef) /\
 (∀(f:Nat) (cs:List AV),cH id id' (.aA f cs)=.aA f (cs.map (bS id id'))):=
 ⟨rfl,λ_=>rfl,λ_ _=>rfl,λ_ _=>rfl,λ_ _ _=>rfl,λ_=>rfl,λ_=>rfl,rfl,λ_ _=>rfl,λ_=>rfl,λ_ _ _=>rfl,λ_ _ _=>rfl,λ_ _=>rfl,λ_=>rfl,λ_=>rfl,λ_ _=>rfl,λ_ _=>rfl⟩
theorem XB (id id':Nat) :
 (dF id id' AV.undef=AV.undef) /\
 (∀(b:Bool),dF id id' (.bool b)=(.bool b)) /\
 (∀(k:IntKind) (n:Int),dF id id' (.int k n)=(.int k n)) /\
 (∀(k:FloatKind) (n:Nat),dF id id' (.fl k n)=(.fl k n)) /\
 (∀(k:FloatKind) (a b:Nat),dF id id' (.cx k a b)=(.cx k a b)) /\
 (∀(l:List UInt8),dF id id' (.str l)=(.str l)) /\
 (∀(x:Value),dF id id' (.lit x)=(.lit x)) /\
 (dF id id' AV.an=AV.an) /\
 (∀(sz0:Nat) (es0:List AV),dF id id' (.ro sz0 es0)=(.ro sz0 es0)) /\
 (∀(x:AV),dF id id' (.ao x)=(.ao x)) /\
 (∀(i o n:Nat),dF id id' (.sl i o n)=.sl (rn id id' i) o n) /\
 (∀(i j f:Nat),dF id id' (.ptr i j f)=.ptr (rn id id' i) j f) /\
 (∀(i f:Nat),dF id id' (.aa i f)=.aa (rn id id' i) f) /\
 (∀(cs:List AV),dF id id' (.agg cs)=.agg (cs.map (bS id id'))) /\
 (∀(cs:List AV),dF id id' (.ab cs)=.ab (cs.map (cH id id'))) /\
 (∀(b:Bool) (x:AV),dF id id' (.gd b x)=.gd b (cH id id' x)) /\
 (∀(f:Nat) (cs:List AV),dF id id' (.aA f cs)=.aA f (cs.map (bS id id'))):=
 ⟨rfl,λ_=>rfl,λ_ _=>rfl,λ_ _=>rfl,λ_ _ _=>rfl,λ_=>rfl,λ_=>rfl,rfl,λ_ _=>rfl,λ_=>rfl,λ_ _ _=>rfl,λ_ _ _=>rfl,λ_ _=>rfl,λ_=>rfl,λ_=>rfl,λ_ _=>rfl,λ_ _=>rfl⟩
theorem RJ (ids keep:List Nat) :
 (cf ids keep AV.undef=AV.undef) /\
 (∀(b:Bool),cf ids keep (.bool b)=(.bool b)) /\
 (∀(k:IntKind) (n:Int),cf ids keep (.int k n)=(.int k n)) /\
 (∀(k:FloatKind) (n:Nat),cf ids keep (.fl k n)=(.fl k n)) /\
 (∀(k:FloatKind) (a b:Nat),cf ids keep (.cx k a b)=(.cx k a b)) /\
 (∀(l:List UInt8),cf ids keep (.str l)=(.str l)) /\
 (∀(x:Value),cf ids keep (.lit x)=(.lit x)) /\
 (cf ids keep AV.an=AV.an) /\
 (∀(sz0:Nat) (es0:List AV),cf ids keep (.ro sz0 es0)=(.ro sz0 es0)) /\
 (∀(x:AV),cf ids keep (.ao x)=(.ao x)) /\
 (∀(i o n:Nat),cf ids keep (.sl i o n)=cu (memN i ids) (.sl i o n)) /\
 (∀(i j f:Nat),cf ids keep (.ptr i j f)=cu (memN i ids) (.ptr i j f)) /\
 (∀(i f:Nat),cf ids keep (.aa i f)=kg (memN i keep) (.aa i f) (cu (memN i ids) (.aa i f))) /\
 (∀(cs:List AV),cf ids keep (.agg cs)=AV.undef) /\
 (∀(cs:List AV),cf ids keep (.ab cs)=AV.undef) /\
 (∀(b:Bool) (x:AV),cf ids keep (.gd b x)=AV.undef) /\
 (∀(f:Nat) (cs:List AV),cf ids keep (.aA f cs)=AV.undef):=
 ⟨rfl,λ_=>rfl,λ_ _=>rfl,λ_ _=>rfl,λ_ _ _=>rfl,λ_=>rfl,λ_=>rfl,rfl,λ_ _=>rfl,λ_=>rfl,λ_ _ _=>kM,λ_ _ _=>kM,λ_ _=>(by rw[<-kM,<-xP];rfl),λ_=>rfl,λ_=>rfl,λ_ _=>rfl,λ_ _=>rfl⟩
theorem RI (ids keep:List Nat) :
 (cP ids keep AV.undef=AV.undef) /\
 (∀(b:Bool),cP ids keep (.bool b)=(.bool b)) /\
 (∀(k:IntKind) (n:Int),cP ids keep (.int k n)=(.int k n)) /\
 (∀(k:FloatKind) (n:Nat),cP ids keep (.fl k n)=(.fl k n)) /\
 (∀(k:FloatKind) (a b:Nat),cP ids keep (.cx k a b)=(.cx k a b)) /\
 (∀(l:List UInt8),cP ids keep (.str l)=(.str l)) /\
 (∀(x:Value),cP ids keep (.lit x)=(.lit x)) /\
 (cP ids keep AV.an=AV.an) /\
 (∀(sz0:Nat) (es0:List AV),cP ids keep (.ro sz0 es0)=(.ro sz0 es0)) /\
 (∀(x:AV),cP ids keep (.ao x)=(.ao x)) /\
 (∀(i o n:Nat),cP ids keep (.sl i o n)=cu (memN i ids) (.sl i o n)) /\
 (∀(i j f:Nat),cP ids keep (.ptr i j f)=cu (memN i ids) (.ptr i j f)) /\
 (∀(i f:Nat),cP ids keep (.aa i f)=kg (memN i keep) (.aa i f) (cu (memN i ids) (.aa i f))) /\
 (∀(cs:List AV),cP ids keep (.agg cs)=.agg (cs.map (cf ids keep))) /\
 (∀(cs:List AV),cP ids keep (.ab cs)=AV.undef) /\
 (∀(b:Bool) (x:AV),cP ids keep (.gd b x)=AV.undef) /\
 (∀(f:Nat) (cs:List AV),cP ids keep (.aA f cs)=.aA f (cs.map (cf ids keep))):=
 ⟨rfl,λ_=>rfl,λ_ _=>rfl,λ_ _=>rfl,λ_ _ _=>rfl,λ_=>rfl,λ_=>rfl,rfl,λ_ _=>rfl,λ_=>rfl,λ_ _ _=>kM,λ_ _ _=>kM,λ_ _=>(by rw[<-kM,<-xP];rfl),λ_=>rfl,λ_=>rfl,λ_ _=>rfl,λ_ _=>rfl⟩
theorem RF (ids keep:List Nat) :
 (kI ids keep AV.undef=AV.undef) /\
 (∀(b:Bool),kI ids keep (.bool b)=(.bool b)) /\
 (∀(k:IntKind) (n:Int),kI ids keep (.int k n)=(.int k n)) /\
 (∀(k:FloatKind) (n:Nat),kI ids keep (.fl k n)=(.fl k n)) /\
 (∀(k:FloatKind) (a b:Nat),kI ids keep (.cx k a b)=(.cx k a b)) /\
 (∀(l:List UInt8),kI ids keep (.str l)=(.str l)) /\
 (∀(x:Value),kI ids keep (.lit x)=(.lit x)) /\
 (kI ids keep AV.an=AV.an) /\
 (∀(sz0:Nat) (es0:List AV),kI ids keep (.ro sz0 es0)=(.ro sz0 es0)) /\
 (∀(x:AV),kI ids keep (.ao x)=(.ao x)) /\
 (∀(i o n:Nat),kI ids keep (.sl i o n)=cu (memN i ids) (.sl i o n)) /\
 (∀(i j f:Nat),kI ids keep (.ptr i j f)=cu (memN i ids) (.ptr i j f)) /\
 (∀(i f:Nat),kI ids keep (.aa i f)=kg (memN i keep) (.aa i f) (cu (memN i ids) (.aa i f))) /\
 (∀(cs:List AV),kI ids keep (.agg cs)=.agg (cs.map (cf ids keep))) /\
 (∀(cs:List AV),kI ids keep (.ab cs)=.ab (cs.map (cP ids keep))) /\
 (∀(b:Bool) (x:AV),kI ids keep (.gd b x)=.gd b (cP ids keep x)) /\
 (∀(f:Nat) (cs:List AV),kI ids keep (.aA f cs)=.aA f (cs.map (cf ids keep))):=
 ⟨rfl,λ_=>rfl,λ_ _=>rfl,λ_ _=>rfl,λ_ _ _=>rfl,λ_=>rfl,λ_=>rfl,rfl,λ_ _=>rfl,λ_=>rfl,λ_ _ _=>kM,λ_ _ _=>kM,λ_ _=>(by rw[<-kM,<-xP];rfl),λ_=>rfl,λ_=>rfl,λ_ _=>rfl,λ_ _=>rfl⟩
theorem Kj (h:HP) :
 (borrowC h AV.undef=AV.undef) /\
 (∀(b:Bool),borrowC h (.bool b)=(.bool b)) /\
 (∀(k:IntKind) (n:Int),borrowC h (.int k n)=(.int k n)) /\
 (∀(k:FloatKind) (n:Nat),borrowC h (.fl k n)=(.fl k n)) /\
 (∀(k:FloatKind) (a b:Nat),borrowC h (.cx k a b)=(.cx k a b)) /\
 (∀(l:List UInt8),borrowC h (.str l)=(.str l)) /\
 (∀(x:Value),borrowC h (.lit x)=(.lit x)) /\
 (borrowC h AV.an=AV.an) /\
 (∀(sz0:Nat) (es0:List AV),borrowC h (.ro sz0 es0)=(.ro sz0 es0)) /\
 (∀(x:AV),borrowC h (.ao x)=(.ao x)) /\
 (∀(i o n:Nat),borrowC h (.sl i o n)=borSl (hget h i) o n) /\
 (∀(i j f:Nat),borrowC h (.ptr i j f)=AV.undef) /\
 (∀(i f:Nat),borrowC h (.aa i f)=AV.undef) /\
 (∀(cs:List AV),borrowC h (.agg cs)=AV.undef) /\
 (∀(cs:List AV),borrowC h (.ab cs)=AV.undef) /\
 (∀(b:Bool) (x:AV),borrowC h (.gd b x)=AV.undef) /\
 (∀(f:Nat) (cs:List AV),borrowC h (.aA f cs)=AV.undef):=
 ⟨rfl,λ_=>rfl,λ_ _=>rfl,λ_ _=>rfl,λ_ _ _=>rfl,λ_=>rfl,λ_=>rfl,rfl,λ_ _=>rfl,λ_=>rfl,λ_ _ _=>(by simp only[borrowC,borSl];split<;>simp_all),λ_ _ _=>rfl,λ_ _=>rfl,λ_=>rfl,λ_=>rfl,λ_ _=>rfl,λ_ _=>rfl⟩
theorem Kk (h:HP) :
 (borrow h AV.undef=AV.undef) /\
 (∀(b:Bool),borrow h (.bool b)=(.bool b)) /\
 (∀(k:IntKind) (n:Int),borrow h (.int k n)=(.int k n)) /\
 (∀(k:FloatKind) (n:Nat),borrow h (.fl k n)=(.fl k n)) /\
 (∀(k:FloatKind) (a b:Nat),borrow h (.cx k a b)=(.cx k a b)) /\
 (∀(l:List UInt8),borrow h (.str l)=(.str l)) /\
 (∀(x:Value),borrow h (.lit x)=(.lit x)) /\
 (borrow h AV.an=AV.an) /\
 (∀(sz0:Nat) (es0:List AV),borrow h (.ro sz0 es0)=(.ro sz0 es0)) /\
 (∀(x:AV),borrow h (.ao x)=(.ao x)) /\
 (∀(i o n:Nat),borrow h (.sl i o n)=borSl (hget h i) o n) /\
 (∀(i j f:Nat),borrow h (.ptr i j f)=AV.undef) /\
 (∀(i f:Nat),borrow h (.aa i f)=AV.undef) /\
 (∀(cs:List AV),borrow h (.agg cs)=.agg (cs.map (borrowC h))) /\
 (∀(cs:List AV),borrow h (.ab cs)=AV.undef) /\
 (∀(b:Bool) (x:AV),borrow h (.gd b x)=AV.undef) /\
 (∀(f:Nat) (cs:List AV),borrow h (.aA f cs)=AV.undef):=
 ⟨rfl,λ_=>rfl,λ_ _=>rfl,λ_ _=>rfl,λ_ _ _=>rfl,λ_=>rfl,λ_=>rfl,rfl,λ_ _=>rfl,λ_=>rfl,λ_ _ _=>(by simp only[borrow,borrowC,borSl];split<;>simp_all),λ_ _ _=>rfl,λ_ _=>rfl,λ_=>rfl,λ_=>rfl,λ_ _=>rfl,λ_ _=>rfl⟩
theorem JH (h0 h:HP) :
 (bcell h0 h AV.undef=AV.undef) /\
 (∀(b:Bool),bcell h0 h (.bool b)=(.bool b)) /\
 (∀(k:IntKind) (n:Int),bcell h0 h (.int k n)=(.int k n)) /\
 (∀(k:FloatKind) (n:Nat),bcell h0 h (.fl k n)=(.fl k n)) /\
 (∀(k:FloatKind) (a b:Nat),bcell h0 h (.cx k a b)=(.cx k a b)) /\
 (∀(l:List UInt8),bcell h0 h (.str l)=(.str l)) /\
 (∀(x:Value),bcell h0 h (.lit x)=(.lit x)) /\
 (bcell h0 h AV.an=AV.an) /\
 (∀(sz0:Nat) (es0:List AV),bcell h0 h (.ro sz0 es0)=(.ro sz0 es0)) /\
 (∀(x:AV),bcell h0 h (.ao x)=(.ao x)) /\
 (∀(i o n:Nat),bcell h0 h (.sl i o n)=keepO (hget h0 i) AV.undef (borSl (hget h i) o n)) /\
 (∀(i j f:Nat),bcell h0 h (.ptr i j f)=AV.undef) /\
 (∀(i f:Nat),bcell h0 h (.aa i f)=AV.undef) /\
 (∀(cs:List AV),bcell h0 h (.agg cs)=AV.undef) /\
 (∀(cs:List AV),bcell h0 h (.ab cs)=AV.undef) /\
 (∀(b:Bool) (x:AV),bcell h0 h (.gd b x)=AV.undef) /\
 (∀(f:Nat) (cs:List AV),bcell h0 h (.aA f cs)=AV.undef):=
 ⟨rfl,λ_=>rfl,λ_ _=>rfl,λ_ _=>rfl,λ_ _ _=>rfl,λ_=>rfl,λ_=>rfl,rfl,λ_ _=>rfl,λ_=>rfl,λ_ _ _=>(by simp only[bcell,borrowC,borSl,keepO];split<;>(try split)<;>simp_all),λ_ _ _=>rfl,λ_ _=>rfl,λ_=>rfl,λ_=>rfl,λ_ _=>rfl,λ_ _=>rfl⟩
theorem Ka (h0 h:HP) :
 (borC h0 h AV.undef=AV.undef) /\
 (∀(b:Bool),borC h0 h (.bool b)=(.bool b)) /\
 (∀(k:IntKind) (n:Int),borC h0 h (.int k n)=(.int k n)) /\
 (∀(k:FloatKind) (n:Nat),borC h0 h (.fl k n)=(.fl k n)) /\
 (∀(k:FloatKind) (a b:Nat),borC h0 h (.cx k a b)=(.cx k a b)) /\
 (∀(l:List UInt8),borC h0 h (.str l)=(.str l)) /\
 (∀(x:Value),borC h0 h (.lit x)=(.lit x)) /\
 (borC h0 h AV.an=AV.an) /\
 (∀(sz0:Nat) (es0:List AV),borC h0 h (.ro sz0 es0)=(.ro sz0 es0)) /\
 (∀(x:AV),borC h0 h (.ao x)=(.ao x)) /\
 (∀(i o n:Nat),borC h0 h (.sl i o n)=keepO (hget h0 i) (.sl i o n) (borSl (hget h i) o n)) /\
 (∀(i j f:Nat),borC h0 h (.ptr i j f)=keepO (hget h0 i) (.ptr i j f) AV.undef) /\
 (∀(i f:Nat),borC h0 h (.aa i f)=keepO (hget h0 i) (.aa i f) (borV h0 h (hget h i) f)) /\
 (∀(cs:List AV),borC h0 h (.agg cs)=AV.undef) /\
 (∀(cs:List AV),borC h0 h (.ab cs)=AV.undef) /\
 (∀(b:Bool) (x:AV),borC h0 h (.gd b x)=AV.undef) /\
 (∀(f:Nat) (cs:List AV),borC h0 h (.aA f cs)=AV.undef):=
 ⟨rfl,λ_=>rfl,λ_ _=>rfl,λ_ _=>rfl,λ_ _ _=>rfl,λ_=>rfl,λ_=>rfl,rfl,λ_ _=>rfl,λ_=>rfl,λ_ _ _=>(by simp only[borC,borrowC,borSl,keepO];split<;>(try split)<;>simp_all),λ_ _ _=>(by simp only[borC,keepO];rfl),λ_ _=>(by simp only[borC,borV,keepO];rfl),λ_=>rfl,λ_=>rfl,λ_ _=>rfl,λ_ _=>rfl⟩
theorem Kh (h0 h:HP) :
 (bor h0 h AV.undef=AV.undef) /\
 (∀(b:Bool),bor h0 h (.bool b)=(.bool b)) /\
 (∀(k:IntKind) (n:Int),bor h0 h (.int k n)=(.int k n)) /\
 (∀(k:FloatKind) (n:Nat),bor h0 h (.fl k n)=(.fl k n)) /\
 (∀(k:FloatKind) (a b:Nat),bor h0 h (.cx k a b)=(.cx k a b)) /\
 (∀(l:List UInt8),bor h0 h (.str l)=(.str l)) /\
 (∀(x:Value),bor h0 h (.lit x)=(.lit x)) /\
 (bor h0 h AV.an=AV.an) /\
 (∀(sz0:Nat) (es0:List AV),bor h0 h (.ro sz0 es0)=(.ro sz0 es0)) /\
 (∀(x:AV),bor h0 h (.ao x)=(.ao x)) /\
 (∀(i o n:Nat),bor h0 h (.sl i o n)=keepO (hget h0 i) (.sl i o n) (borSl (hget h i) o n)) /\
 (∀(i j f:Nat),bor h0 h (.ptr i j f)=keepO (hget h0 i) (.ptr i j f) AV.undef) /\
 (∀(i f:Nat),bor h0 h (.aa i f)=keepO (hget h0 i) (.aa i f) (borV h0 h (hget h i) f)) /\
 (∀(cs:List AV),bor h0 h (.agg cs)=.agg (cs.map (borC h0 h))) /\
 (∀(cs:List AV),bor h0 h (.ab cs)=AV.undef) /\
 (∀(b:Bool) (x:AV),bor h0 h (.gd b x)=AV.undef) /\
 (∀(f:Nat) (cs:List AV),bor h0 h (.aA f cs)=AV.undef):=
 ⟨rfl,λ_=>rfl,λ_ _=>rfl,λ_ _=>rfl,λ_ _ _=>rfl,λ_=>rfl,λ_=>rfl,rfl,λ_ _=>rfl,λ_=>rfl,λ_ _ _=>(by simp only[bor,borC,borrowC,borSl,keepO];split<;>(try split)<;>simp_all),λ_ _ _=>(by simp only[bor,borC,keepO];rfl),λ_ _=>(by simp only[bor,borC,borV,keepO];rfl),λ_=>rfl,λ_=>rfl,λ_ _=>rfl,λ_ _=>rfl⟩
theorem Va :
 (noRefC  AV.undef=true) /\
 (∀(b:Bool),noRefC  (.bool b)=true) /\
 (∀(k:IntKind) (n:Int),noRefC  (.int k n)=true) /\
 (∀(k:FloatKind) (n:Nat),noRefC  (.fl k n)=true) /\
 (∀(k:FloatKind) (a b:Nat),noRefC  (.cx k a b)=true) /\
 (∀(l:List UInt8),noRefC  (.str l)=true) /\
 (∀(x:Value),noRefC  (.lit x)=true) /\
 (noRefC  AV.an=true) /\
 (∀(sz0:Nat) (es0:List AV),noRefC  (.ro sz0 es0)=true) /\
 (∀(x:AV),noRefC  (.ao x)=true) /\
 (∀(i o n:Nat),noRefC  (.sl i o n)=false) /\
 (∀(i j f:Nat),noRefC  (.ptr i j f)=false) /\
 (∀(i f:Nat),noRefC  (.aa i f)=false) /\
 (∀(cs:List AV),noRefC  (.agg cs)=false) /\
 (∀(cs:List AV),noRefC  (.ab cs)=false) /\
 (∀(b:Bool) (x:AV),noRefC  (.gd b x)=false) /\
 (∀(f:Nat) (cs:List AV),noRefC  (.aA f cs)=false):=
 ⟨rfl,λ_=>rfl,λ_ _=>rfl,λ_ _=>rfl,λ_ _ _=>rfl,λ_=>rfl,λ_=>rfl,rfl,λ_ _=>rfl,λ_=>rfl,λ_ _ _=>rfl,λ_ _ _=>rfl,λ_ _=>rfl,λ_=>rfl,λ_=>rfl,λ_ _=>rfl,λ_ _=>rfl⟩
theorem Od :
 (flC  AV.undef=true) /\
 (∀(b:Bool),flC  (.bool b)=true) /\
 (∀(k:IntKind) (n:Int),flC  (.int k n)=true) /\
 (∀(k:FloatKind) (n:Nat),flC  (.fl k n)=true) /\
 (∀(k:FloatKind) (a b:Nat),flC  (.cx k a b)=true) /\
 (∀(l:List UInt8),flC  (.str l)=true) /\
 (∀(x:Value),flC  (.lit x)=true) /\
 (flC  AV.an=true) /\
 (∀(sz0:Nat) (es0:List AV),flC  (.ro sz0 es0)=false) /\
 (∀(x:AV),flC  (.ao x)=false) /\
 (∀(i o n:Nat),flC  (.sl i o n)=false) /\
 (∀(i j f:Nat),flC  (.ptr i j f)=false) /\
 (∀(i f:Nat),flC  (.aa i f)=false) /\
 (∀(cs:List AV),flC  (.agg cs)=false) /\
 (∀(cs:List AV),flC  (.ab cs)=false) /\
 (∀(b:Bool) (x:AV),flC  (.gd b x)=false) /\
 (∀(f:Nat) (cs:List AV),flC  (.aA f cs)=false):=
 ⟨rfl,λ_=>rfl,λ_ _=>rfl,λ_ _=>rfl,λ_ _ _=>rfl,λ_=>rfl,λ_=>rfl,rfl,λ_ _=>rfl,λ_=>rfl,λ_ _ _=>rfl,λ_ _ _=>rfl,λ_ _=>rfl,λ_=>rfl,λ_=>rfl,λ_ _=>rfl,λ_ _=>rfl⟩
theorem Rh :
 (isCell  AV.undef=false) /\
 (∀(b:Bool),isCell  (.bool b)=true) /\
 (∀(k:IntKind) (n:Int),isCell  (.int k n)=true) /\
 (∀(k:FloatKind) (n:Nat),isCell  (.fl k n)=true) /\
 (∀(k:FloatKind) (a b:Nat),isCell  (.cx k a b)=true) /\
 (∀(l:List UInt8),isCell  (.str l)=true) /\
 (∀(x:Value),isCell  (.lit x)=x.oneCell') /\
 (isCell  AV.an=true) /\
 (∀(sz0:Nat) (es0:List AV),isCell  (.ro sz0 es0)=true) /\
 (∀(x:AV),isCell  (.ao x)=true) /\
 (∀(i o n:Nat),isCell  (.sl i o n)=true) /\
 (∀(i j f:Nat),isCell  (.ptr i j f)=true) /\
 (∀(i f:Nat),isCell  (.aa i f)=true) /\
 (∀(cs:List AV),isCell  (.agg cs)=false) /\
 (∀(cs:List AV),isCell  (.ab cs)=false) /\
 (∀(b:Bool) (x:AV),isCell  (.gd b x)=false) /\
 (∀(f:Nat) (cs:List AV),isCell  (.aA f cs)=false):=
 ⟨rfl,λ_=>rfl,λ_ _=>rfl,λ_ _=>rfl,λ_ _ _=>rfl,λ_=>rfl,λ_=>rfl,rfl,λ_ _=>rfl,λ_=>rfl,λ_ _ _=>rfl,λ_ _ _=>rfl,λ_ _=>rfl,λ_=>rfl,λ_=>rfl,λ_ _=>rfl,λ_ _=>rfl⟩
theorem Vc :
 (bF  AV.undef=true) /\
 (∀(b:Bool),bF  (.bool b)=true) /\
 (∀(k:IntKind) (n:Int),bF  (.int k n)=true) /\
 (∀(k:FloatKind) (n:Nat),bF  (.fl k n)=true) /\
 (∀(k:FloatKind) (a b:Nat),bF  (.cx k a b)=true) /\
 (∀(l:List UInt8),bF  (.str l)=true) /\
 (∀(x:Value),bF  (.lit x)=true) /\
 (bF  AV.an=true) /\
 (∀(sz0:Nat) (es0:List AV),bF  (.ro sz0 es0)=true) /\
 (∀(x:AV),bF  (.ao x)=true) /\
 (∀(i o n:Nat),bF  (.sl i o n)=false) /\
 (∀(i j f:Nat),bF  (.ptr i j f)=false) /\
 (∀(i f:Nat),bF  (.aa i f)=false) /\
 (∀(cs:List AV),bF  (.agg cs)=cs.all noRefC) /\
 (∀(cs:List AV),bF  (.ab cs)=false) /\
 (∀(b:Bool) (x:AV),bF  (.gd b x)=false) /\
 (∀(f:Nat) (cs:List AV),bF  (.aA f cs)=false):=
 ⟨rfl,λ_=>rfl,λ_ _=>rfl,λ_ _=>rfl,λ_ _ _=>rfl,λ_=>rfl,λ_=>rfl,rfl,λ_ _=>rfl,λ_=>rfl,λ_ _ _=>rfl,λ_ _ _=>rfl,λ_ _=>rfl,λ_=>rfl,λ_=>rfl,λ_ _=>rfl,λ_ _=>rfl⟩
theorem Vb :
 (dP  AV.undef=true) /\
 (∀(b:Bool),dP  (.bool b)=true) /\
 (∀(k:IntKind) (n:Int),dP  (.int k n)=true) /\
 (∀(k:FloatKind) (n:Nat),dP  (.fl k n)=true) /\
 (∀(k:FloatKind) (a b:Nat),dP  (.cx k a b)=true) /\
 (∀(l:List UInt8),dP  (.str l)=true) /\
 (∀(x:Value),dP  (.lit x)=true) /\
 (dP  AV.an=true) /\
 (∀(sz0:Nat) (es0:List AV),dP  (.ro sz0 es0)=true) /\
 (∀(x:AV),dP  (.ao x)=true) /\
 (∀(i o n:Nat),dP  (.sl i o n)=false) /\
 (∀(i j f:Nat),dP  (.ptr i j f)=false) /\
 (∀(i f:Nat),dP  (.aa i f)=false) /\
 (∀(cs:List AV),dP  (.agg cs)=cs.all noRefC) /\
 (∀(cs:List AV),dP  (.ab cs)=cs.all bF) /\
 (∀(b:Bool) (x:AV),dP  (.gd b x)=false) /\
 (∀(f:Nat) (cs:List AV),dP  (.aA f cs)=false):=
 ⟨rfl,λ_=>rfl,λ_ _=>rfl,λ_ _=>rfl,λ_ _ _=>rfl,λ_=>rfl,λ_=>rfl,rfl,λ_ _=>rfl,λ_=>rfl,λ_ _ _=>rfl,λ_ _ _=>rfl,λ_ _=>rfl,λ_=>rfl,λ_=>rfl,λ_ _=>rfl,λ_ _=>rfl⟩
theorem Oa :
 (flA  AV.undef=true) /\
 (∀(b:Bool),flA  (.bool b)=true) /\
 (∀(k:IntKind) (n:Int),flA  (.int k n)=true) /\
 (∀(k:FloatKind) (n:Nat),flA  (.fl k n)=true) /\
 (∀(k:FloatKind) (a b:Nat),flA  (.cx k a b)=true) /\
 (∀(l:List UInt8),flA  (.str l)=true) /\
 (∀(x:Value),flA  (.lit x)=true) /\
 (flA  AV.an=true) /\
 (∀(sz0:Nat) (es0:List AV),flA  (.ro sz0 es0)=false) /\
 (∀(x:AV),flA  (.ao x)=false) /\
 (∀(i o n:Nat),flA  (.sl i o n)=false) /\
 (∀(i j f:Nat),flA  (.ptr i j f)=false) /\
 (∀(i f:Nat),flA  (.aa i f)=false) /\
 (∀(cs:List AV),flA  (.agg cs)=cs.all flC) /\
 (∀(cs:List AV),flA  (.ab cs)=false) /\
 (∀(b:Bool) (x:AV),flA  (.gd b x)=false) /\
 (∀(f:Nat) (cs:List AV),flA  (.aA f cs)=false):=
 ⟨rfl,λ_=>rfl,λ_ _=>rfl,λ_ _=>rfl,λ_ _ _=>rfl,λ_=>rfl,λ_=>rfl,rfl,λ_ _=>rfl,λ_=>rfl,λ_ _ _=>rfl,λ_ _ _=>rfl,λ_ _=>rfl,λ_=>rfl,λ_=>rfl,λ_ _=>rfl,λ_ _=>rfl⟩
theorem Oj :
 (cZ  AV.undef=true) /\
 (∀(b:Bool),cZ  (.bool b)=true) /\
 (∀(k:IntKind) (n:Int),cZ  (.int k n)=true) /\
 (∀(k:FloatKind) (n:Nat),cZ  (.fl k n)=true) /\
 (∀(k:FloatKind) (a b:Nat),cZ  (.cx k a b)=true) /\
 (∀(l:List UInt8),cZ  (.str l)=true) /\
 (∀(x:Value),cZ  (.lit x)=true) /\
 (cZ  AV.an=true) /\
 (∀(sz0:Nat) (es0:List AV),cZ  (.ro sz0 es0)=false) /\
 (∀(x:AV),cZ  (.ao x)=false) /\
 (∀(i o n:Nat),cZ  (.sl i o n)=false) /\
 (∀(i j f:Nat),cZ  (.ptr i j f)=false) /\
 (∀(i f:Nat),cZ  (.aa i f)=false) /\
 (∀(cs:List AV),cZ  (.agg cs)=cs.all flC) /\
 (∀(cs:List AV),cZ  (.ab cs)=cs.all flA) /\
 (∀(b:Bool) (x:AV),cZ  (.gd b x)=false) /\
 (∀(f:Nat) (cs:List AV),cZ  (.aA f cs)=false):=
 ⟨rfl,λ_=>rfl,λ_ _=>rfl,λ_ _=>rfl,λ_ _ _=>rfl,λ_=>rfl,λ_=>rfl,rfl,λ_ _=>rfl,λ_=>rfl,λ_ _ _=>rfl,λ_ _ _=>rfl,λ_ _=>rfl,λ_=>rfl,λ_=>rfl,λ_ _=>rfl,λ_ _=>rfl⟩
theorem OK (h:HP) :
 (cA h AV.undef=true) /\
 (∀(b:Bool),cA h (.bool b)=true) /\
 (∀(k:IntKind) (n:Int),cA h (.int k n)=true) /\
 (∀(k:FloatKind) (n:Nat),cA h (.fl k n)=true) /\
 (∀(k:FloatKind) (a b:Nat),cA h (.cx k a b)=true) /\
 (∀(l:List UInt8),cA h (.str l)=true) /\
 (∀(x:Value),cA h (.lit x)=true) /\
 (cA h AV.an=true) /\
 (∀(sz0:Nat) (es0:List AV),cA h (.ro sz0 es0)=false) /\
 (∀(x:AV),cA h (.ao x)=false) /\
 (∀(i o n:Nat),cA h (.sl i o n)=(hget h i).isSome) /\
 (∀(i j f:Nat),cA h (.ptr i j f)=(hget h i).isSome) /\
 (∀(i f:Nat),cA h (.aa i f)=(hget h i).isSome) /\
 (∀(cs:List AV),cA h (.agg cs)=false) /\
 (∀(cs:List AV),cA h (.ab cs)=false) /\
 (∀(b:Bool) (x:AV),cA h (.gd b x)=false) /\
 (∀(f:Nat) (cs:List AV),cA h (.aA f cs)=false):=
 ⟨rfl,λ_=>rfl,λ_ _=>rfl,λ_ _=>rfl,λ_ _ _=>rfl,λ_=>rfl,λ_=>rfl,rfl,λ_ _=>rfl,λ_=>rfl,λ_ _ _=>rfl,λ_ _ _=>rfl,λ_ _=>rfl,λ_=>rfl,λ_=>rfl,λ_ _=>rfl,λ_ _=>rfl⟩
theorem OJ (h:HP) :
 (di h AV.undef=true) /\
 (∀(b:Bool),di h (.bool b)=true) /\
 (∀(k:IntKind) (n:Int),di h (.int k n)=true) /\
 (∀(k:FloatKind) (n:Nat),di h (.fl k n)=true) /\
 (∀(k:FloatKind) (a b:Nat),di h (.cx k a b)=true) /\
 (∀(l:List UInt8),di h (.str l)=true) /\
 (∀(x:Value),di h (.lit x)=true) /\
 (di h AV.an=true) /\
 (∀(sz0:Nat) (es0:List AV),di h (.ro sz0 es0)=false) /\
 (∀(x:AV),di h (.ao x)=false) /\
 (∀(i o n:Nat),di h (.sl i o n)=(hget h i).isSome) /\
 (∀(i j f:Nat),di h (.ptr i j f)=(hget h i).isSome) /\
 (∀(i f:Nat),di h (.aa i f)=(hget h i).isSome) /\
 (∀(cs:List AV),di h (.agg cs)=cs.all (cA h)) /\
 (∀(cs:List AV),di h (.ab cs)=false) /\
 (∀(b:Bool) (x:AV),di h (.gd b x)=false) /\
 (∀(f:Nat) (cs:List AV),di h (.aA f cs)=false):=
 ⟨rfl,λ_=>rfl,λ_ _=>rfl,λ_ _=>rfl,λ_ _ _=>rfl,λ_=>rfl,λ_=>rfl,rfl,λ_ _=>rfl,λ_=>rfl,λ_ _ _=>rfl,λ_ _ _=>rfl,λ_ _=>rfl,λ_=>rfl,λ_=>rfl,λ_ _=>rfl,λ_ _=>rfl⟩
theorem Og (h:HP) :
 (eG h AV.undef=true) /\
 (∀(b:Bool),eG h (.bool b)=true) /\
 (∀(k:IntKind) (n:Int),eG h (.int k n)=true) /\
 (∀(k:FloatKind) (n:Nat),eG h (.fl k n)=true) /\
 (∀(k:FloatKind) (a b:Nat),eG h (.cx k a b)=true) /\
 (∀(l:List UInt8),eG h (.str l)=true) /\
 (∀(x:Value),eG h (.lit x)=true) /\
 (eG h AV.an=true) /\
 (∀(sz0:Nat) (es0:List AV),eG h (.ro sz0 es0)=false) /\
 (∀(x:AV),eG h (.ao x)=false) /\
 (∀(i o n:Nat),eG h (.sl i o n)=(hget h i).isSome) /\
 (∀(i j f:Nat),eG h (.ptr i j f)=(hget h i).isSome) /\
 (∀(i f:Nat),eG h (.aa i f)=(hget h i).isSome) /\
 (∀(cs:List AV),eG h (.agg cs)=cs.all (cA h)) /\
 (∀(cs:List AV),eG h (.ab cs)=cs.all (di h)) /\
 (∀(b:Bool) (x:AV),eG h (.gd b x)=false) /\
 (∀(f:Nat) (cs:List AV),eG h (.aA f cs)=false):=
 ⟨rfl,λ_=>rfl,λ_ _=>rfl,λ_ _=>rfl,λ_ _ _=>rfl,λ_=>rfl,λ_=>rfl,rfl,λ_ _=>rfl,λ_=>rfl,λ_ _ _=>rfl,λ_ _ _=>rfl,λ_ _=>rfl,λ_=>rfl,λ_=>rfl,λ_ _=>rfl,λ_ _=>rfl⟩
theorem QL (h:HP) :
 (cC h AV.undef=true) /\
 (∀(b:Bool),cC h (.bool b)=true) /\
 (∀(k:IntKind) (n:Int),cC h (.int k n)=true) /\
 (∀(k:FloatKind) (n:Nat),cC h (.fl k n)=true) /\
 (∀(k:FloatKind) (a b:Nat),cC h (.cx k a b)=true) /\
 (∀(l:List UInt8),cC h (.str l)=true) /\
 (∀(x:Value),cC h (.lit x)=true) /\
 (cC h AV.an=true) /\
 (∀(sz0:Nat) (es0:List AV),cC h (.ro sz0 es0)=true) /\
 (∀(x:AV),cC h (.ao x)=true) /\
 (∀(i o n:Nat),cC h (.sl i o n)=(hget h i).isSome) /\
 (∀(i j f:Nat),cC h (.ptr i j f)=(hget h i).isSome) /\
 (∀(i f:Nat),cC h (.aa i f)=(hget h i).isSome) /\
 (∀(cs:List AV),cC h (.agg cs)=false) /\
 (∀(cs:List AV),cC h (.ab cs)=false) /\
 (∀(b:Bool) (x:AV),cC h (.gd b x)=false) /\
 (∀(f:Nat) (cs:List AV),cC h (.aA f cs)=false):=
 ⟨rfl,λ_=>rfl,λ_ _=>rfl,λ_ _=>rfl,λ_ _ _=>rfl,λ_=>rfl,λ_=>rfl,rfl,λ_ _=>rfl,λ_=>rfl,λ_ _ _=>rfl,λ_ _ _=>rfl,λ_ _=>rfl,λ_=>rfl,λ_=>rfl,λ_ _=>rfl,λ_ _=>rfl⟩
theorem QK (h:HP) :
 (dj h AV.undef=true) /\
 (∀(b:Bool),dj h (.bool b)=true) /\
 (∀(k:IntKind) (n:Int),dj h (.int k n)=true) /\
 (∀(k:FloatKind) (n:Nat),dj h (.fl k n)=true) /\
 (∀(k:FloatKind) (a b:Nat),dj h (.cx k a b)=true) /\
 (∀(l:List UInt8),dj h (.str l)=true) /\
 (∀(x:Value),dj h (.lit x)=true) /\
 (dj h AV.an=true) /\
 (∀(sz0:Nat) (es0:List AV),dj h (.ro sz0 es0)=true) /\
 (∀(x:AV),dj h (.ao x)=true) /\
 (∀(i o n:Nat),dj h (.sl i o n)=(hget h i).isSome) /\
 (∀(i j f:Nat),dj h (.ptr i j f)=(hget h i).isSome) /\
 (∀(i f:Nat),dj h (.aa i f)=(hget h i).isSome) /\
 (∀(cs:List AV),dj h (.agg cs)=cs.all (cC h)) /\
 (∀(cs:List AV),dj h (.ab cs)=false) /\
 (∀(b:Bool) (x:AV),dj h (.gd b x)=false) /\
 (∀(f:Nat) (cs:List AV),dj h (.aA f cs)=false):=
 ⟨rfl,λ_=>rfl,λ_ _=>rfl,λ_ _=>rfl,λ_ _ _=>rfl,λ_=>rfl,λ_=>rfl,rfl,λ_ _=>rfl,λ_=>rfl,λ_ _ _=>rfl,λ_ _ _=>rfl,λ_ _=>rfl,λ_=>rfl,λ_=>rfl,λ_ _=>rfl,λ_ _=>rfl⟩
theorem QN (h:HP) :
 (dw h AV.undef=true) /\
 (∀(b:Bool),dw h (.bool b)=true) /\
 (∀(k:IntKind) (n:Int),dw h (.int k n)=true) /\
 (∀(k:FloatKind) (n:Nat),dw h (.fl k n)=true) /\
 (∀(k:FloatKind) (a b:Nat),dw h (.cx k a b)=true) /\
 (∀(l:List UInt8),dw h (.str l)=true) /\
 (∀(x:Value),dw h (.lit x)=true) /\
 (dw h AV.an=true) /\
 (∀(sz0:Nat) (es0:List AV),dw h (.ro sz0 es0)=true) /\
 (∀(x:AV),dw h (.ao x)=true) /\
 (∀(i o n:Nat),dw h (.sl i o n)=(hget h i).isSome) /\
 (∀(i j f:Nat),dw h (.ptr i j f)=(hget h i).isSome) /\
 (∀(i f:Nat),dw h (.aa i f)=(hget h i).isSome) /\
 (∀(cs:List AV),dw h (.agg cs)=cs.all (cC h)) /\
 (∀(cs:List AV),dw h (.ab cs)=cs.all (dj h)) /\
 (∀(b:Bool) (x:AV),dw h (.gd b x)=false) /\
 (∀(f:Nat) (cs:List AV),dw h (.aA f cs)=false):=
 ⟨rfl,λ_=>rfl,λ_ _=>rfl,λ_ _=>rfl,λ_ _ _=>rfl,λ_=>rfl,λ_=>rfl,rfl,λ_ _=>rfl,λ_=>rfl,λ_ _ _=>rfl,λ_ _ _=>rfl,λ_ _=>rfl,λ_=>rfl,λ_=>rfl,λ_ _=>rfl,λ_ _=>rfl⟩
theorem Z7 :
 (stripV  AV.undef=AV.undef) /\
 (∀(b:Bool),stripV  (.bool b)=(.bool b)) /\
 (∀(k:IntKind) (n:Int),stripV  (.int k n)=(.int k n)) /\
 (∀(k:FloatKind) (n:Nat),stripV  (.fl k n)=(.fl k n)) /\
 (∀(k:FloatKind) (a b:Nat),stripV  (.cx k a b)=(.cx k a b)) /\
 (∀(l:List UInt8),stripV  (.str l)=(.str l)) /\
 (∀(x:Value),stripV  (.lit x)=(.lit x)) /\
 (stripV  AV.an=AV.an) /\
 (∀(sz0:Nat) (es0:List AV),stripV  (.ro sz0 es0)=(.ro sz0 es0)) /\
 (∀(x:AV),stripV  (.ao x)=(.ao x)) /\
 (∀(i o n:Nat),stripV  (.sl i o n)=(.sl i o n)) /\
 (∀(i j f:Nat),stripV  (.ptr i j f)=(.ptr i j f)) /\
 (∀(i f:Nat),stripV  (.aa i f)=(.aa i f)) /\
 (∀(cs:List AV),stripV  (.agg cs)=(.agg cs)) /\
 (∀(cs:List AV),stripV  (.ab cs)=(.ab cs)) /\
 (∀(b:Bool) (x:AV),stripV  (.gd b x)=x) /\
 (∀(f:Nat) (cs:List AV),stripV  (.aA f cs)=.aA f cs):=
 ⟨rfl,λ_=>rfl,λ_ _=>rfl,λ_ _=>rfl,λ_ _ _=>rfl,λ_=>rfl,λ_=>rfl,rfl,λ_ _=>rfl,λ_=>rfl,λ_ _ _=>rfl,λ_ _ _=>rfl,λ_ _=>rfl,λ_=>rfl,λ_=>rfl,λ_ _=>rfl,λ_ _=>rfl⟩
theorem Z6 (γ:Bool) :
 (aq γ AV.undef=True) /\
 (∀(b:Bool),aq γ (.bool b)=True) /\
 (∀(k:IntKind) (n:Int),aq γ (.int k n)=True) /\
 (∀(k:FloatKind) (n:Nat),aq γ (.fl k n)=True) /\
 (∀(k:FloatKind) (a b:Nat),aq γ (.cx k a b)=True) /\
 (∀(l:List UInt8),aq γ (.str l)=True) /\
 (∀(x:Value),aq γ (.lit x)=True) /\
 (aq γ AV.an=True) /\
 (∀(sz0:Nat) (es0:List AV),aq γ (.ro sz0 es0)=True) /\
 (∀(x:AV),aq γ (.ao x)=True) /\
 (∀(i o n:Nat),aq γ (.sl i o n)=True) /\
 (∀(i j f:Nat),aq γ (.ptr i j f)=True) /\
 (∀(i f:Nat),aq γ (.aa i f)=True) /\
 (∀(cs:List AV),aq γ (.agg cs)=True) /\
 (∀(cs:List AV),aq γ (.ab cs)=True) /\
 (∀(b:Bool) (x:AV),aq γ (.gd b x)=(γ=true->b=true)) /\
 (∀(f:Nat) (cs:List AV),aq γ (.aA f cs)=True):=
 ⟨rfl,λ_=>rfl,λ_ _=>rfl,λ_ _=>rfl,λ_ _ _=>rfl,λ_=>rfl,λ_=>rfl,rfl,λ_ _=>rfl,λ_=>rfl,λ_ _ _=>rfl,λ_ _ _=>rfl,λ_ _=>rfl,λ_=>rfl,λ_=>rfl,λ_ _=>rfl,λ_ _=>rfl⟩
theorem NI (st:St):(∀k,ev st (.t k)=(sget st.s k).getD .undef)/\(∀v,ev st (.c v)=v):=⟨λ_=>rfl,λ_=>rfl⟩
theorem Xh (st:St) (v:AV):(∀d,put st (some d) v=⟨(d,v)::st.s,st.h⟩)/\put st none v=st:=⟨λ_=>rfl,rfl⟩
theorem Pv (w:Bool):(∀β,grd (some (.bool β)) w=some (β==w))/\(∀b β,grd (some (.gd b (.bool β))) w=some (b&&(β==w)))/\grd (some (.gd false .undef)) w=some false:=⟨λ_=>rfl,λb _=>by cases b<;>rfl,rfl⟩
theorem U3 (st:St) (d:Nat) (W:aC):bL st d W=⟨killS d st.s,bo (fE d st.h) d W⟩:=(rfl)
theorem Sl (id:Nat):(∀sz es,lV id (.arr sz es)=.arr sz es)/\(∀cs,lV id (.var cs)=.var (cs.map (killC id)))/\(∀kd l,lV id (.mp kd l)=.mp kd l):=⟨λ_ _=>rfl,λ_=>rfl,λ_ _=>rfl⟩
theorem OZ (id sz:Nat) (es:List AV):(∀sz' es',mV id sz es (.arr sz' es')=.arr sz' es')/\(∀cs,mV id sz es (.var cs)=.var (cs.map (bR id sz es)))/\(∀kd l,mV id sz es (.mp kd l)=.mp kd l):=⟨λ_ _=>rfl,λ_=>rfl,λ_ _=>rfl⟩
theorem XA (id id':Nat):(∀sz es,l7 id id' (.arr sz es)=.arr sz es)/\(∀cs,l7 id id' (.var cs)=.var (cs.map λc=>bS id id' (killC id' c)))/\(∀kd l,l7 id id' (.mp kd l)=.mp kd l):=⟨λ_ _=>rfl,λ_=>rfl,λ_ _=>rfl⟩
theorem RG (ids keep:List Nat):(∀sz es,kO ids keep (.arr sz es)=.arr sz es)/\(∀cs,kO ids keep (.var cs)=.var (cs.map (cf ids keep)))/\(∀kd l,kO ids keep (.mp kd l)=.mp kd l):=⟨λ_ _=>rfl,λ_=>rfl,λ_ _=>rfl⟩
theorem QO (h:HP):(∀sz es,oH h (.arr sz es)=true)/\(∀cs,oH h (.var cs)=cs.all (cC h))/\(∀kd l,oH h (.mp kd l)=true):=⟨λ_ _=>rfl,λ_=>rfl,λ_ _=>rfl⟩
theorem Ol (h:HP):(∀sz es,lO h (.arr sz es)=es.all flA)/\(∀cs,lO h (.var cs)=cs.all (cA h))/\(∀kd (l:List (MK×AV)),lO h (.mp kd l)=l.all λp=>flA p.2):=⟨λ_ _=>rfl,λ_=>rfl,λ_ _=>rfl⟩
theorem QM (h:HP):jw h []=true/\(∀k W r,jw h ((k,W)::r)=(oH h W&&jw h r)):=⟨rfl,λ_ _ _=>rfl⟩
theorem Oe (h:HP):flH h []=true/\(∀k W r,flH h ((k,W)::r)=(lO h W&&flH h r)):=⟨rfl,λ_ _ _=>rfl⟩
theorem UX:dD []=[]/\(∀k W r,dD ((k,W)::r)=k::dD r):=⟨rfl,λ_ _ _=>rfl⟩
theorem Vw (k:Nat):numbered k []=[]/\(∀x r,numbered k (x::r)=(k,x)::numbered (k+1) r):=⟨rfl,λ_ _=>rfl⟩
theorem Xz (id id':Nat):renS id id' []=[]/\(∀k v r,renS id id' ((k,v)::r)=(k,dF id id' (kill id' v))::renS id id' r):=⟨rfl,λ_ _ _=>rfl⟩
theorem Xy (id id':Nat):renH id id' []=[]/\(∀k v r,renH id id' ((k,v)::r)=(rn id id' k,l7 id id' v)::renH id id' r):=⟨rfl,λ_ _ _=>rfl⟩
theorem ZQ (id id':Nat) (st:St):vb id id' st=⟨renS id id' st.s,renH id id' st.h⟩:=(rfl)
theorem ZL (k id sz:Nat) (st:St):ze k id sz st=⟨(k,.sl id 0 0)::killS id st.s,bo (fE id st.h) id (.arr sz [])⟩:=(rfl)
theorem ZK (p f id sz:Nat) (cs:List AV) (st:St):zf p f id sz cs st=⟨killS id st.s,bo (bo (fE id st.h) id (.arr sz [])) p (.var ((cs.map (killC id)).set f (.sl id 0 0)))⟩:=(rfl)
def mY (b:Bool) (x y:Option (List AV)):Option (List AV):=match b with
 | true=>x
 | false=>y
def y0 (W:Option aC) (sz o n:Nat):Option (List AV):=match W with
 | some (.arr sz' es)=>mY (sz'==sz) (some (aB es o n)) none
 | _=>none
theorem QD {x y:Option (List AV)}:mY true x y=x:=(rfl)
theorem QC {x y:Option (List AV)}:mY false x y=y:=(rfl)
theorem Y9 {sz sz' o n:Nat} {es:List AV}:y0 (some (.arr sz' es)) sz o n=mY (sz'==sz) (some (aB es o n)) none:=(rfl)
theorem xJ {i j:Nat} {x y:Option (List AV)}:(if i=j then x else y)=mY (i==j) x y:=by
 by_cases h:i=j
 ·subst h;rw[if_pos rfl,show(i==i)=true by simp];rfl
 ·rw[if_neg h,show(i==j)=false by simp[h]];rfl
theorem Y8 (sz:Nat) (st:St):slE sz st .an=some []/\(∀sz' es,slE sz st (.ro sz' es)=mY (sz'==sz) (some es) none)/\(∀id o n,slE sz st (.sl id o n)=y0 (hget st.h id) sz o n):=by
 refine⟨rfl,λsz' es=>?_,λid o n=>?_⟩
 ·rw[<-xJ];rfl
 ·simp only[slE,y0];split
  ·rename_i e;rw[e];exact xJ
  ·rename_i e;split
   ·rename_i e2;exact(e _ _ e2).elim
   rfl
def kB (b:Bool) (l:List Nat):List Nat:=match b with
 | true=>l
 | false=>[]
def keep1 (x a:AV):List Nat:=match x,a with
 | .aa p f,.aa p' f'=>kB (p==p'&&f==f') [p]
 | _,_=>[]
theorem RE (l:List Nat):kB true l=l/\kB false l=[]:=⟨rfl,rfl⟩
theorem RQ (x a:AV) (xs as:List AV):keepL2 (x::xs) (a::as)=keep1 x a++keepL2 xs as:=by
 cases x<;>cases a<;>simp only[keepL2,keep1,adf]
 rename_i p f p' f';by_cases h1:p=p'
 ·by_cases h2:f=f'
  ·subst h1;subst h2;simp[kB]
  ·rw[if_pos h1,if_neg h2,show(p==p'&&f==f')=false by simp[h2]];rfl
 ·rw[if_neg h1,show(p==p'&&f==f')=false by simp[h1]];rfl
theorem RU (as:List AV):keepL2 [] as=[]:=by simp[keepL2]
theorem RW (xs:List AV):keepL2 xs []=[]:=by cases xs<;>simp[keepL2]
theorem RN:(∀(a:AV),keep1 AV.undef a=[]) /\
 (∀(b:Bool) (a:AV),keep1 (.bool b) a=[]) /\
 (∀(k:IntKind) (n:Int) (a:AV),keep1 (.int k n) a=[]) /\
 (∀(k:FloatKind) (n:Nat) (a:AV),keep1 (.fl k n) a=[]) /\
 (∀(k:FloatKind) (m n:Nat) (a:AV),keep1 (.cx k m n) a=[]) /\
 (∀(l:List UInt8) (a:AV),keep1 (.str l) a=[]) /\
 (∀(v:Value) (a:AV),keep1 (.lit v) a=[]) /\
 (∀(a:AV),keep1 AV.an a=[]) /\
 (∀(sz:Nat) (es:List AV) (a:AV),keep1 (.ro sz es) a=[]) /\
 (∀(x:AV) (a:AV),keep1 (.ao x) a=[]) /\
 (∀(i o n:Nat) (a:AV),keep1 (.sl i o n) a=[]) /\
 (∀(i j f:Nat) (a:AV),keep1 (.ptr i j f) a=[]) /\
 (∀(cs:List AV) (a:AV),keep1 (.agg cs) a=[]) /\
 (∀(cs:List AV) (a:AV),keep1 (.ab cs) a=[]) /\
 (∀(b:Bool) (x:AV) (a:AV),keep1 (.gd b x) a=[]) /\
 (∀(p f:Nat),keep1 (.aa p f) AV.undef=[]) /\
 (∀(p f:Nat) (b:Bool),keep1 (.aa p f) (.bool b)=[]) /\
 (∀(p f:Nat) (k:IntKind) (n:Int),keep1 (.aa p f) (.int k n)=[]) /\
 (∀(p f:Nat) (k:FloatKind) (n:Nat),keep1 (.aa p f) (.fl k n)=[]) /\
 (∀(p f:Nat) (k:FloatKind) (m n:Nat),keep1 (.aa p f) (.cx k m n)=[]) /\
 (∀(p f:Nat) (l:List UInt8),keep1 (.aa p f) (.str l)=[]) /\
 (∀(p f:Nat) (v:Value),keep1 (.aa p f) (.lit v)=[]) /\
 (∀(p f:Nat),keep1 (.aa p f) AV.an=[]) /\
 (∀(p f:Nat) (sz:Nat) (es:List AV),keep1 (.aa p f) (.ro sz es)=[]) /\
 (∀(p f:Nat) (x:AV),keep1 (.aa p f) (.ao x)=[]) /\
 (∀(p f:Nat) (i o n:Nat),keep1 (.aa p f) (.sl i o n)=[]) /\
 (∀(p f:Nat) (i j f:Nat),keep1 (.aa p f) (.ptr i j f)=[]) /\
 (∀(p f:Nat) (cs:List AV),keep1 (.aa p f) (.agg cs)=[]) /\
 (∀(p f:Nat) (cs:List AV),keep1 (.aa p f) (.ab cs)=[]) /\
 (∀(p f:Nat) (b:Bool) (x:AV),keep1 (.aa p f) (.gd b x)=[]) /\
 (∀(p f p' f':Nat),keep1 (.aa p f) (.aa p' f')=kB (p==p'&&f==f') [p]):=
 ⟨λ_=>rfl,λ_ _=>rfl,λ_ _ _=>rfl,λ_ _ _=>rfl,λ_ _ _ _=>rfl,λ_ _=>rfl,λ_ _=>rfl,λ_=>rfl,λ_ _ _=>rfl,λ_ _=>rfl,λ_ _ _ _=>rfl,λ_ _ _ _=>rfl,λ_ _=>rfl,λ_ _=>rfl,λ_ _ _=>rfl,λ_ _=>rfl,λ_ _ _=>rfl,λ_ _ _ _=>rfl,λ_ _ _ _=>rfl,λ_ _ _ _ _=>rfl,λ_ _ _=>rfl,λ_ _ _=>rfl,λ_ _=>rfl,λ_ _ _ _=>rfl,λ_ _ _=>rfl,λ_ _ _ _ _=>rfl,λ_ _ _ _ _=>rfl,λ_ _ _=>rfl,λ_ _ _=>rfl,λ_ _ _ _=>rfl,λ_ _ _ _=>rfl⟩
def pQ (b:Bool) (l:List (Nat×AV)):List (Nat×AV):=match b with
 | true=>l
 | false=>[]
theorem Jr (l:List (Nat×AV)):pQ true l=l/\pQ false l=[]:=⟨rfl,rfl⟩
def back1 (s:List (Nat×AV)) (h:HP) (k:Nat) (a:AV):List (Nat×AV):=match a with
 | .sl i o n=>pQ ((hget h i).isSome&&(sget s k).isSome) [(k,.sl i o n)]
 | _=>[]
theorem JD (s:List (Nat×AV)) (h:HP) (k:Nat) (xs:List AE) (a:AV) (as:List AV):backS s h (.t k::xs) (a::as)=back1 s h k a++backS s h xs as:=by
 cases a<;>simp only[backS,back1,adf]
 rename_i i o n;cases h1:(hget h i).isSome<;>cases h2:(sget s k).isSome<;>simp[pQ]
theorem JA (s:List (Nat×AV)) (h:HP) (v:AV) (xs:List AE) (a:AV) (as:List AV):backS s h (.c v::xs) (a::as)=backS s h xs as:=by
 cases a<;>simp only[backS]
theorem JC (s:List (Nat×AV)) (h:HP) (as:List AV):backS s h [] as=[]:=by simp[backS]
theorem Jw:(∀(s:List (Nat×AV)) (h:HP) (k0:Nat),back1 s h k0 AV.undef=[]) /\
 (∀(s:List (Nat×AV)) (h:HP) (k0:Nat) (b:Bool),back1 s h k0 (.bool b)=[]) /\
 (∀(s:List (Nat×AV)) (h:HP) (k0:Nat) (k:IntKind) (n:Int),back1 s h k0 (.int k n)=[]) /\
 (∀(s:List (Nat×AV)) (h:HP) (k0:Nat) (k:FloatKind) (n:Nat),back1 s h k0 (.fl k n)=[]) /\
 (∀(s:List (Nat×AV)) (h:HP) (k0:Nat) (k:FloatKind) (m n:Nat),back1 s h k0 (.cx k m n)=[]) /\
 (∀(s:List (Nat×AV)) (h:HP) (k0:Nat) (l:List UInt8),back1 s h k0 (.str l)=[]) /\
 (∀(s:List (Nat×AV)) (h:HP) (k0:Nat) (v:Value),back1 s h k0 (.lit v)=[]) /\
 (∀(s:List (Nat×AV)) (h:HP) (k0:Nat),back1 s h k0 AV.an=[]) /\
 (∀(s:List (Nat×AV)) (h:HP) (k0:Nat) (sz:Nat) (es:List AV),back1 s h k0 (.ro sz es)=[]) /\
 (∀(s:List (Nat×AV)) (h:HP) (k0:Nat) (x:AV),back1 s h k0 (.ao x)=[]) /\
 (∀(s:List (Nat×AV)) (h:HP) (k0:Nat) (i j f:Nat),back1 s h k0 (.ptr i j f)=[]) /\
 (∀(s:List (Nat×AV)) (h:HP) (k0:Nat) (cs:List AV),back1 s h k0 (.agg cs)=[]) /\
 (∀(s:List (Nat×AV)) (h:HP) (k0:Nat) (cs:List AV),back1 s h k0 (.ab cs)=[]) /\
 (∀(s:List (Nat×AV)) (h:HP) (k0:Nat) (b:Bool) (x:AV),back1 s h k0 (.gd b x)=[]) /\
 (∀(s:List (Nat×AV)) (h:HP) (k0:Nat) (i f:Nat),back1 s h k0 (.aa i f)=[]) /\
 (∀(s:List (Nat×AV)) (h:HP) (k0:Nat) (i o n:Nat),back1 s h k0 (.sl i o n)=pQ ((hget h i).isSome&&(sget s k0).isSome) [(k0,.sl i o n)]):=
 ⟨λ_ _ _=>rfl,λ_ _ _ _=>rfl,λ_ _ _ _ _=>rfl,λ_ _ _ _ _=>rfl,λ_ _ _ _ _ _=>rfl,λ_ _ _ _=>rfl,λ_ _ _ _=>rfl,λ_ _ _=>rfl,λ_ _ _ _ _=>rfl,λ_ _ _ _=>rfl,λ_ _ _ _ _ _=>rfl,λ_ _ _ _=>rfl,λ_ _ _ _=>rfl,λ_ _ _ _ _=>rfl,λ_ _ _ _ _=>rfl,λ_ _ _ _ _ _=>rfl⟩
theorem HW (st:St) (h:HP) (args:List AE) (h':HP) (as:List AV):gU st h args h' as=⟨backS st.s h' args as++killSI (dD h++dD h') (keepL2 (args.map (ev st)) as) st.s,h'++dropH (dD h++dD h') (keepL2 (args.map (ev st)) as) st.h⟩:=(rfl)
theorem ZG (sz:Nat) (st:St):(∀l,srcE sz st (.str l)=mY (sz==1) (some (l.map ub)) none)/\srcE sz st .an=slE sz st .an/\(∀sz' es,srcE sz st (.ro sz' es)=slE sz st (.ro sz' es))/\(∀id o n,srcE sz st (.sl id o n)=slE sz st (.sl id o n)):=
 ⟨λl=>by rw[<-xJ];rfl,rfl,λ_ _=>rfl,λ_ _ _=>rfl⟩
theorem KI (x:AV):aD x=(cellsOf x).all isCell:=(rfl)
theorem YE {α:Type} (l:List α) (k:Nat) (s:List α):bV l k s=l.take k++s++l.drop (k+s.length):=(rfl)
theorem VZ:(∀x,packC [x]=x)/\packC []=.agg []/\(∀x y r,packC (x::y::r)=.agg (x::y::r)):=⟨λ_=>rfl,rfl,λ_ _ _=>rfl⟩
theorem WJ (γ β:Bool) (x y:AV) :
 (∀p q,pick2 γ β x y (.bool p) (.bool q)=.ok ((γ=true->β=true->aq true x)/\(γ=true->β=false->aq true y)) (.bool (if β then p else q))) /\
 (∀p,pick2 γ β x y (.bool p) .undef=.ok (γ=true->β=true/\aq true x) (.bool p)) /\
 (∀q,pick2 γ β x y .undef (.bool q)=.ok (γ=true->β=false/\aq true y) (.bool q)):=⟨λ_ _=>rfl,λ_=>rfl,λ_=>rfl⟩
theorem WK (γ β:Bool) (x y:AV):pickR γ (.bool β) x y=pick2 γ β x y (stripV x) (stripV y):=(rfl)
theorem R9 (st:St):(∀id o n,keepR st (.sl id o n)=keepSl st id o n (hget st.h id)) /\
 (∀b,keepR st (.bool b)=.ok (bF (.bool b)=true/\aD (.bool b)=true) (.bool b) st) /\
 (∀k n,keepR st (.int k n)=.ok (bF (.int k n)=true/\aD (.int k n)=true) (.int k n) st) /\
 (∀k n,keepR st (.fl k n)=.ok (bF (.fl k n)=true/\aD (.fl k n)=true) (.fl k n) st) /\
 (∀k a b,keepR st (.cx k a b)=.ok (bF (.cx k a b)=true/\aD (.cx k a b)=true) (.cx k a b) st) /\
 (∀l,keepR st (.str l)=.ok (bF (.str l)=true/\aD (.str l)=true) (.str l) st) /\
 (∀l,keepR st (.lit l)=.ok (bF (.lit l)=true/\aD (.lit l)=true) (.lit l) st) /\
 (keepR st .an=.ok (bF .an=true/\aD .an=true) .an st) /\
 (∀sz es,keepR st (.ro sz es)=.ok (bF (.ro sz es)=true/\aD (.ro sz es)=true) (.ro sz es) st) /\
 (∀x,keepR st (.ao x)=.ok (bF (.ao x)=true/\aD (.ao x)=true) (.ao x) st) /\
 (∀cs,keepR st (.agg cs)=.ok (bF (.agg cs)=true/\aD (.agg cs)=true) (.agg cs) st):=
 ⟨λ_ _ _=>rfl,λ_=>rfl,λ_ _=>rfl,λ_ _=>rfl,λ_ _ _=>rfl,λ_=>rfl,λ_=>rfl,rfl,λ_ _=>rfl,λ_=>rfl,λ_=>rfl⟩
theorem Ig :
 (∀(c:Prop) d v,andR c (.ok d v)=.ok (c/\d) v) /\
 (∀(c:Prop),andR c (.fail)=.fail):=
 ⟨(λ_ _ _=>rfl),(λ_=>rfl)⟩
theorem Q0 :
 (∀(γ:Bool) (k:IntKind) (k':IntKind) (x:Int) (y:Int),intR γ (.shl) k k' x y=.ok (γ=true->0<=y) (.int k (k.wrap (x*2^(min y.toNat k.bits))))) /\
 (∀(γ:Bool) (k:IntKind) (k':IntKind) (x:Int) (y:Int),intR γ (.shr) k k' x y=.ok (γ=true->0<=y) (.int k (x.fdiv (2^(min y.toNat k.bits))))) /\
 (∀(γ:Bool) (k:IntKind) (k':IntKind) (x:Int) (y:Int),intR γ (.add) k k' x y=.ok (k=k') (.int k (k.wrap (x+y)))) /\
 (∀(γ:Bool) (k:IntKind) (k':IntKind) (x:Int) (y:Int),intR γ (.sub) k k' x y=.ok (k=k') (.int k (k.wrap (x-y)))) /\
 (∀(γ:Bool) (k:IntKind) (k':IntKind) (x:Int) (y:Int),intR γ (.mul) k k' x y=.ok (k=k') (.int k (k.wrap (x*y)))) /\
 (∀(γ:Bool) (k:IntKind) (k':IntKind) (x:Int) (y:Int),intR γ (.quo) k k' x y=.ok (k=k'/\(γ=true->y≠0)) (.int k (k.wrap (x.tdiv y)))) /\
 (∀(γ:Bool) (k:IntKind) (k':IntKind) (x:Int) (y:Int),intR γ (.rem) k k' x y=.ok (k=k'/\(γ=true->y≠0)) (.int k (x.tmod y))) /\
 (∀(γ:Bool) (k:IntKind) (k':IntKind) (x:Int) (y:Int),intR γ (.and) k k' x y=.ok (k=k') (.int k (bits .and k x y))) /\
 (∀(γ:Bool) (k:IntKind) (k':IntKind) (x:Int) (y:Int),intR γ (.or) k k' x y=.ok (k=k') (.int k (bits .or k x y))) /\
 (∀(γ:Bool) (k:IntKind) (k':IntKind) (x:Int) (y:Int),intR γ (.xor) k k' x y=.ok (k=k') (.int k (bits .xor k x y))) /\
 (∀(γ:Bool) (k:IntKind) (k':IntKind) (x:Int) (y:Int),intR γ (.andNot) k k' x y=.ok (k=k') (.int k (bits .andNot k x y))) /\
 (∀(γ:Bool) (k:IntKind) (k':IntKind) (x:Int) (y:Int),intR γ (.eql) k k' x y=.ok (k=k') (.bool (decide (x=y)))) /\
 (∀(γ:Bool) (k:IntKind) (k':IntKind) (x:Int) (y:Int),intR γ (.neq) k k' x y=.ok (k=k') (.bool (!decide (x=y)))) /\
 (∀(γ:Bool) (k:IntKind) (k':IntKind) (x:Int) (y:Int),intR γ (.lss) k k' x y=.ok (k=k') (.bool (decide (x<y)))) /\
 (∀(γ:Bool) (k:IntKind) (k':IntKind) (x:Int) (y:Int),intR γ (.leq) k k' x y=.ok (k=k') (.bool (decide (x<=y)))) /\
 (∀(γ:Bool) (k:IntKind) (k':IntKind) (x:Int) (y:Int),intR γ (.gtr) k k' x y=.ok (k=k') (.bool (decide (y<x)))) /\
 (∀(γ:Bool) (k:IntKind) (k':IntKind) (x:Int) (y:Int),intR γ (.geq) k k' x y=.ok (k=k') (.bool (decide (y<=x)))):=
 ⟨(λ_ _ _ _ _=>rfl),(λ_ _ _ _ _=>rfl),(λ_ _ _ _ _=>rfl),(λ_ _ _ _ _=>rfl),(λ_ _ _ _ _=>rfl),(λ_ _ _ _ _=>rfl),(λ_ _ _ _ _=>rfl),(λ_ _ _ _ _=>rfl),(λ_ _ _ _ _=>rfl),(λ_ _ _ _ _=>rfl),(λ_ _ _ _ _=>rfl),(λ_ _ _ _ _=>rfl),(λ_ _ _ _ _=>rfl),(λ_ _ _ _ _=>rfl),(λ_ _ _ _ _=>rfl),(λ_ _ _ _ _=>rfl),(λ_ _ _ _ _=>rfl)⟩
theorem Z1 :
 (∀(γ:Bool) (x:List UInt8) (y:List UInt8),kj γ (.add) x y=.ok (γ=true->x.length+y.length<=9223372036854775807) (.str (x++y))) /\
 (∀(γ:Bool) (x:List UInt8) (y:List UInt8),kj γ (.eql) x y=.ok True (.bool (x==y))) /\
 (∀(γ:Bool) (x:List UInt8) (y:List UInt8),kj γ (.neq) x y=.ok True (.bool (!(x==y)))) /\
 (∀(γ:Bool) (x:List UInt8) (y:List UInt8),kj γ (.lss) x y=.ok True (.bool (Op.bytesLess x y))) /\
 (∀(γ:Bool) (x:List UInt8) (y:List UInt8),kj γ (.leq) x y=.ok True (.bool (Op.bytesLess x y||x==y))) /\
 (∀(γ:Bool) (x:List UInt8) (y:List UInt8),kj γ (.gtr) x y=.ok True (.bool (!(Op.bytesLess x y||x==y)))) /\
 (∀(γ:Bool) (x:List UInt8) (y:List UInt8),kj γ (.geq) x y=.ok True (.bool (!Op.bytesLess x y))):=
 ⟨(λ_ _ _=>rfl),(λ_ _ _=>rfl),(λ_ _ _=>rfl),(λ_ _ _=>rfl),(λ_ _ _=>rfl),(λ_ _ _=>rfl),(λ_ _ _=>rfl)⟩
theorem Oi :
 (∀(k:FloatKind) (k':FloatKind) (x:Nat) (y:Nat),iP (.add) k k' x y=.ok (k=k'/\(k.format.add x y).isSome=true) (.fl k ((k.format.add x y).getD 0))) /\
 (∀(k:FloatKind) (k':FloatKind) (x:Nat) (y:Nat),iP (.sub) k k' x y=.ok (k=k'/\(k.format.sub x y).isSome=true) (.fl k ((k.format.sub x y).getD 0))) /\
 (∀(k:FloatKind) (k':FloatKind) (x:Nat) (y:Nat),iP (.mul) k k' x y=.ok (k=k'/\(k.format.mul x y).isSome=true) (.fl k ((k.format.mul x y).getD 0))) /\
 (∀(k:FloatKind) (k':FloatKind) (x:Nat) (y:Nat),iP (.eql) k k' x y=.ok (k=k') (.bool (k.format.order x y==some .eq))) /\
 (∀(k:FloatKind) (k':FloatKind) (x:Nat) (y:Nat),iP (.neq) k k' x y=.ok (k=k') (.bool (k.format.order x y != some .eq))) /\
 (∀(k:FloatKind) (k':FloatKind) (x:Nat) (y:Nat),iP (.lss) k k' x y=.ok (k=k') (.bool (k.format.order x y==some .lt))) /\
 (∀(k:FloatKind) (k':FloatKind) (x:Nat) (y:Nat),iP (.gtr) k k' x y=.ok (k=k') (.bool (k.format.order x y==some .gt))) /\
 (∀(k:FloatKind) (k':FloatKind) (x:Nat) (y:Nat),iP (.leq) k k' x y=.ok (k=k') (.bool (k.format.order x y==some .lt||k.format.order x y==some .eq))) /\
 (∀(k:FloatKind) (k':FloatKind) (x:Nat) (y:Nat),iP (.geq) k k' x y=.ok (k=k') (.bool (k.format.order x y==some .gt||k.format.order x y==some .eq))):=
 ⟨(λ_ _ _ _=>rfl),(λ_ _ _ _=>rfl),(λ_ _ _ _=>rfl),(λ_ _ _ _=>rfl),(λ_ _ _ _=>rfl),(λ_ _ _ _=>rfl),(λ_ _ _ _=>rfl),(λ_ _ _ _=>rfl),(λ_ _ _ _=>rfl)⟩
theorem L8 :
 (∀(k:FloatKind) (k':FloatKind) (a:Nat) (b:Nat) (c:Nat) (d:Nat),mK (.add) k k' a b c d=.ok (k=k'/\(k.format.add a c).isSome=true/\(k.format.add b d).isSome=true) (.cx k ((k.format.add a c).getD 0) ((k.format.add b d).getD 0))) /\
 (∀(k:FloatKind) (k':FloatKind) (a:Nat) (b:Nat) (c:Nat) (d:Nat),mK (.sub) k k' a b c d=.ok (k=k'/\(k.format.sub a c).isSome=true/\(k.format.sub b d).isSome=true) (.cx k ((k.format.sub a c).getD 0) ((k.format.sub b d).getD 0))) /\
 (∀(k:FloatKind) (k':FloatKind) (a:Nat) (b:Nat) (c:Nat) (d:Nat),mK (.eql) k k' a b c d=.ok (k=k') (.bool (k.format.order a c==some .eq&&k.format.order b d==some .eq))) /\
 (∀(k:FloatKind) (k':FloatKind) (a:Nat) (b:Nat) (c:Nat) (d:Nat),mK (.neq) k k' a b c d=.ok (k=k') (.bool (!(k.format.order a c==some .eq&&k.format.order b d==some .eq)))):=
 ⟨(λ_ _ _ _ _ _=>rfl),(λ_ _ _ _ _ _=>rfl),(λ_ _ _ _ _ _=>rfl),(λ_ _ _ _ _ _=>rfl)⟩
theorem JR :
 (∀(γ:Bool) (op:BinOp) k a k' b,binR γ op (.int k a) (.int k' b)=intR γ op k k' a b) /\
 (∀(γ:Bool) (op:BinOp) a b,binR γ op (.str a) (.str b)=kj γ op a b) /\
 (∀(γ:Bool) (op:BinOp) k a k' b,binR γ op (.fl k a) (.fl k' b)=iP op k k' a b) /\
 (∀(γ:Bool) (op:BinOp) k a b k' c d,binR γ op (.cx k a b) (.cx k' c d)=mK op k k' a b c d):=
 ⟨(λ_ _ _ _ _ _=>rfl),(λ_ _ _ _=>rfl),(λ_ _ _ _ _ _=>rfl),(λ_ _ _ _ _ _ _ _=>rfl)⟩
theorem JI :
 (∀(neg:Bool) a b,beqR neg (.bool a) (.bool b)=.ok True (.bool (if neg then !(a==b)else a==b))):=
 (λ_ _ _=>rfl)
theorem ND :
 (∀a b,eqOK 0 (.bool a) (.bool b)=true)/\(∀k a k' b,eqOK 1 (.int k a) (.int k' b)=(k==k'))/\(∀a b,eqOK 2 (.str a) (.str b)=true):=⟨(λ_ _=>rfl),(λ_ _ _ _=>rfl),(λ_ _=>rfl)⟩
theorem NA :
 (∀a b,eqC (.bool a) (.bool b)=(a==b))/\(∀k a k' b,eqC (.int k a) (.int k' b)=decide (a=b))/\(∀a b,eqC (.str a) (.str b)=(a==b)):=⟨(λ_ _=>rfl),(λ_ _ _ _=>rfl),(λ_ _=>rfl)⟩
theorem QH (k:IntKind):(k==k)=true:=by cases k<;>decide
theorem NG:eqOKs [] [] []=true:=(rfl)
theorem NF (k:Nat) (ks:List Nat) (c:AV) (cs:List AV) (d:AV) (ds:List AV):eqOKs (k::ks) (c::cs) (d::ds)=(eqOK k c d&&eqOKs ks cs ds):=(rfl)
theorem NC:eqCs [] []=true:=(rfl)
theorem NB (c:AV) (cs:List AV) (d:AV) (ds:List AV):eqCs (c::cs) (d::ds)=(eqC c d&&eqCs cs ds):=(rfl)
theorem HT (γ neg:Bool) (ks:List Nat) (cs ds:List AV):aeqR γ neg ks (.agg cs) (.agg ds)=.ok (γ=true->eqOKs ks cs ds=true) (.bool (if neg then !(eqCs cs ds)else eqCs cs ds)):=(rfl)
theorem IX (γ:Bool) (st:St) (neg:Bool) (ks:List Nat) (x y:AE):avalR γ st (.nR neg ks x y)=andR (aq γ (ev st x)) (andR (aq γ (ev st y)) (aeqR γ neg ks (stripV (ev st x)) (stripV (ev st y)))):=(rfl)
theorem aaV :
 (∀b,unR (.not) (.bool b)=.ok True (.bool (!b))) /\
 (∀k n,unR (.neg) (.int k n)=.ok True (.int k (k.wrap (0-n)))) /\
 (∀k n,unR (.xor) (.int k n)=.ok True (.int k (bits .xor k (if k.signed then -1 else k.max) n))):=
 ⟨(λ_=>rfl),(λ_ _=>rfl),(λ_ _=>rfl)⟩
theorem L4 :
 (∀(k:IntKind) u1 n,cviR k (.int u1 n)=.ok True (.int k (k.wrap n))):=
 (λ_ _ _=>rfl)
theorem Lf :
 (∀(k:FloatKind) u1 n,sF k (.int u1 n)=.ok True (.fl k (k.nearest n))):=
 (λ_ _ _=>rfl)
theorem K7 :
 (∀(γ:Bool) (k:IntKind) s b,cfiR γ k (.fl s b)=.ok (γ=true->(floatToIntVal s b k).isSome=true) (.int k ((floatToIntVal s b k).getD 0))):=
 (λ_ _ _ _=>rfl)
theorem LU :
 (∀s,cstR (.str s)=.ok True (.str s)):=
 (λ_=>rfl)
theorem Kp :
 (∀(γ:Bool) es,btsR γ (some es)=.ok (γ=true->gw es=true) (.str (bytesOf es))) /\
 (∀(γ:Bool),btsR γ (none)=.fail):=
 ⟨(λ_ _=>rfl),(λ_=>rfl)⟩
theorem LJ :
 (∀k a k' b,cplxR (.fl k a) (.fl k' b)=.ok (k=k') (.cx k a b)):=
 (λ_ _ _ _=>rfl)
theorem Xq :
 (∀k a u1,reR (.cx k a u1)=.ok True (.fl k a)):=
 (λ_ _ _=>rfl)
theorem QJ :
 (∀k u1 b,tS (.cx k u1 b)=.ok True (.fl k b)):=
 (λ_ _ _=>rfl)
theorem TW :
 (∀l,lenR (true) (.str l)=.ok True (.int .i64 l.length)) /\
 (∀u1 es,lenR (false) (.ro u1 es)=.ok True (.int .i64 es.length)) /\
 (∀u1 u2 n,lenR (false) (.sl u1 u2 n)=.ok True (.int .i64 n)) /\
 (lenR (false) (.an)=.ok True (.int .i64 0)):=
 ⟨(λ_=>rfl),(λ_ _=>rfl),(λ_ _ _=>rfl),rfl⟩
theorem UI :
 (∀(mx:Bool) k a u1 b,mmR mx (.int k a) (.int u1 b)=.ok True (.int k (if mx then(if b > a then b else a)else(if b<a then b else a)))):=
 (λ_ _ _ _ _=>rfl)
theorem NJ :
 (∀(i:Nat) vs,extR (.ab vs) i=.ok (i<vs.length) (vs.getD i .undef)):=
 (λ_ _=>rfl)
theorem U9 :
 (∀e,nilcR (.ao e)=.ok True (.ao e)) /\
 (∀id f,nilcR (.aa id f)=.ok True (.aa id f)):=
 ⟨(λ_=>rfl),(λ_ _=>rfl)⟩
theorem QB :
 (∀(γ:Bool) (sz:Nat) (id:Nat) (off:Nat) (n:Nat) (i:Int) sz' u1,idxW γ sz (some (.arr sz' u1)) id off n i=.ok ((γ=true->0<=i/\i<n)/\0<sz/\sz'=sz) (.ptr id (off+i.toNat) 0)):=
 (λ_ _ _ _ _ _ _ _=>rfl)
theorem Qz :
 (∀(γ:Bool) (st:St) (sz:Nat) sz' es u1 i,idxR γ st sz (.ro sz' es) (.int u1 i)=.ok ((γ=true->0<=i/\i<es.length)/\0<sz/\sz'=sz) (.ao (nth es i.toNat))) /\
 (∀(γ:Bool) (st:St) (sz:Nat) id off n u1 i,idxR γ st sz (.sl id off n) (.int u1 i)=idxW γ sz (hget st.h id) id off n i):=
 ⟨(λ_ _ _ _ _ _ _=>rfl),(λ_ _ _ _ _ _ _ _=>rfl)⟩
theorem Y3 :
 (∀(γ:Bool) l u1 i,sidxR γ (.str l) (.int u1 i)=.ok (γ=true->0<=i/\i<l.length) (.int .u8 (l.getD i.toNat 0).toNat)):=
 (λ_ _ _ _=>rfl)
theorem TJ :
 (∀(γ:Bool) (n:Nat) (cs:List AV),ldcR γ (true) n cs=.ok (γ=true->n<=cs.length) (.agg (cs.take n))) /\
 (∀(γ:Bool) (n:Nat) (cs:List AV),ldcR γ (false) n cs=.ok (γ=true->0<cs.length) (cs.getD 0 .undef)):=
 ⟨(λ_ _ _=>rfl),(λ_ _ _=>rfl)⟩
theorem TC :
 (∀(γ:Bool) (ag:Bool) (n:Nat) (i:Nat) (f:Nat) u1 es,ug γ ag n i f (some (.arr u1 es))=ldcR γ ag n ((cellsOf (nth es i)).drop f)):=
 (λ_ _ _ _ _ _ _=>rfl)
theorem TI :
 (∀(γ:Bool) (ag:Bool) (n:Nat) (f:Nat) cs,ldV γ ag n f (some (.var cs))=ldcR γ ag n (cs.drop f)):=
 (λ_ _ _ _ _=>rfl)
theorem TH :
 (∀(γ:Bool) (st:St) (ag:Bool) (n:Nat) e,ldR γ st ag n (.ao e)=ldcR γ ag n (cellsOf e)) /\
 (∀(γ:Bool) (st:St) (ag:Bool) (n:Nat) id i f,ldR γ st ag n (.ptr id i f)=ug γ ag n i f (hget st.h id)) /\
 (∀(γ:Bool) (st:St) (ag:Bool) (n:Nat) id f,ldR γ st ag n (.aa id f)=ldV γ ag n f (hget st.h id)):=
 ⟨(λ_ _ _ _ _=>rfl),(λ_ _ _ _ _ _ _=>rfl),(λ_ _ _ _ _ _=>rfl)⟩
theorem Jo :
 (∀(γ:Bool) (n:Nat) (c:Prop) u1 l,sj γ n c (.int u1 l)=.ok (c/\(γ=true->0<=l/\l<=n)) l.toNat n):=
 (λ_ _ _ _ _=>rfl)
theorem Jp :
 (∀(γ:Bool) (n:Nat) (c:Prop) u1 h,sk γ n c (.int u1 h)=.ok (c/\(γ=true->0<=h/\h<=n)) 0 h.toNat):=
 (λ_ _ _ _ _=>rfl)
theorem Jq :
 (∀(γ:Bool) (n:Nat) (c:Prop) (c':Prop) u1 l u2 h,sn γ n c c' (.int u1 l) (.int u2 h)=.ok (c/\c'/\(γ=true->0<=l/\l<=h/\h<=n)) l.toNat h.toNat):=
 (λ_ _ _ _ _ _ _ _=>rfl)
theorem J4 :
 (∀(γ:Bool) (st:St) (n:Nat),bndR γ st n (none) (none)=.ok True 0 n) /\
 (∀(γ:Bool) (st:St) (n:Nat) l,bndR γ st n (some l) (none)=sj γ n (aq γ (ev st l)) (stripV (ev st l))) /\
 (∀(γ:Bool) (st:St) (n:Nat) h,bndR γ st n (none) (some h)=sk γ n (aq γ (ev st h)) (stripV (ev st h))) /\
 (∀(γ:Bool) (st:St) (n:Nat) l h,bndR γ st n (some l) (some h)=sn γ n (aq γ (ev st l)) (aq γ (ev st h)) (stripV (ev st l)) (stripV (ev st h))):=
 ⟨(λ_ _ _=>rfl),(λ_ _ _ _=>rfl),(λ_ _ _ _=>rfl),(λ_ _ _ _ _=>rfl)⟩
theorem Zg :
 (∀(s:List UInt8) c l h,slcStrR s (.ok c l h)=.ok c (.str ((s.drop l).take (h-l)))) /\
 (∀(s:List UInt8),slcStrR s (.fail)=.fail):=
 ⟨(λ_ _ _ _=>rfl),(λ_=>rfl)⟩
theorem Ze :
 (∀(γ:Bool) (st:St) (lo:Option AE) (hi:Option AE) s,u6 γ st lo hi (.str s)=slcStrR s (bndR γ st s.length lo hi)):=
 (λ_ _ _ _ _=>rfl)
theorem Zc :
 (∀c u1 u2,rv (.ok c u1 u2)=.ok c .an) /\
 (rv (.fail)=.fail):=
 ⟨(λ_ _ _=>rfl),rfl⟩
theorem Zd :
 (∀(sz:Nat) (sz':Nat) (es:List AV) c l h,ry sz sz' es (.ok c l h)=.ok (sz'=sz/\c) (.ro sz (aB es l (h-l)))) /\
 (∀(sz:Nat) (sz':Nat) (es:List AV),ry sz sz' es (.fail)=.fail):=
 ⟨(λ_ _ _ _ _ _=>rfl),(λ_ _ _=>rfl)⟩
theorem Zf :
 (∀(sz:Nat) (id:Nat) (off:Nat) c l h sz' u1,slcSlR sz id off (some (.arr sz' u1)) (.ok c l h)=.ok (c/\sz'=sz) (.sl id (off+l) (h-l))):=
 (λ_ _ _ _ _ _ _ _=>rfl)
theorem Zb :
 (∀(γ:Bool) (st:St) (sz:Nat) (lo:Option AE) (hi:Option AE),slcAR γ st sz lo hi (.an)=rv (bndR γ st 0 lo hi)) /\
 (∀(γ:Bool) (st:St) (sz:Nat) (lo:Option AE) (hi:Option AE) sz' es,slcAR γ st sz lo hi (.ro sz' es)=ry sz sz' es (bndR γ st es.length lo hi)) /\
 (∀(γ:Bool) (st:St) (sz:Nat) (lo:Option AE) (hi:Option AE) id off n,slcAR γ st sz lo hi (.sl id off n)=slcSlR sz id off (hget st.h id) (bndR γ st n lo hi)):=
 ⟨(λ_ _ _ _ _=>rfl),(λ_ _ _ _ _ _ _=>rfl),(λ_ _ _ _ _ _ _ _=>rfl)⟩
theorem Oz :
 (∀(off:Nat) (id:Nat) (i:Nat) (f:Nat) sz u1,tp off (some (.arr sz u1)) id i f=.ok (f+off<sz) (.ptr id i (f+off))):=
 (λ_ _ _ _ _ _=>rfl)
theorem Ox :
 (∀(γ:Bool) (off:Nat) (n:Nat) (cs:List AV),tn γ (true) off n cs=.ok ((γ=true->off+n<=cs.length)/\0<n) (.ao (.agg ((cs.drop off).take n)))) /\
 (∀(γ:Bool) (off:Nat) (n:Nat) (cs:List AV),tn γ (false) off n cs=.ok ((γ=true->off+n<=cs.length)/\0<n/\n=1/\isCell (cs.getD off .undef)=true) (.ao (cs.getD off .undef))):=
 ⟨(λ_ _ _ _=>rfl),(λ_ _ _ _=>rfl)⟩
theorem Ow :
 (∀(γ:Bool) (st:St) (ag:Bool) (off:Nat) (n:Nat) e,mU γ st ag off n (.ao e)=tn γ ag off n (cellsOf e)) /\
 (∀(γ:Bool) (st:St) (ag:Bool) (off:Nat) (n:Nat) id i f,mU γ st ag off n (.ptr id i f)=tp off (hget st.h id) id i f) /\
 (∀(γ:Bool) (st:St) (ag:Bool) (off:Nat) (n:Nat) id f,mU γ st ag off n (.aa id f)=.ok True (.aa id (f+off))):=
 ⟨(λ_ _ _ _ _ _=>rfl),(λ_ _ _ _ _ _ _ _=>rfl),(λ_ _ _ _ _ _ _=>rfl)⟩
theorem Oy :
 (∀(γ:Bool) (ag:Bool) (off:Nat) (n:Nat) cs,fldR γ ag off n (.agg cs)=.ok ((γ=true->off+n<=cs.length)/\0<n) (if ag then .agg ((cs.drop off).take n)else cs.getD off .undef)):=
 (λ_ _ _ _ _=>rfl)
theorem I0 :
 (∀(γ:Bool) (st:St) x,avalR γ st (.fZ x)=andR (aq γ (ev st x)) (.ok True (stripV (ev st x)))) /\
 (∀(γ:Bool) (st:St) c x y,avalR γ st (.pick c x y)=andR (aq γ (ev st c)) (pickR γ (stripV (ev st c)) (ev st x) (ev st y))) /\
 (∀(γ:Bool) (st:St) op x y,avalR γ st (.bin op x y)=andR (aq γ (ev st x)) (andR (aq γ (ev st y)) (binR γ op (stripV (ev st x)) (stripV (ev st y))))) /\
 (∀(γ:Bool) (st:St) neg x y,avalR γ st (.beq neg x y)=andR (aq γ (ev st x)) (andR (aq γ (ev st y)) (beqR neg (stripV (ev st x)) (stripV (ev st y))))) /\
 (∀(γ:Bool) (st:St) op x,avalR γ st (.un op x)=andR (aq γ (ev st x)) (unR op (stripV (ev st x)))) /\
 (∀(γ:Bool) (st:St) k x,avalR γ st (.qf k x)=andR (aq γ (ev st x)) (cviR k (stripV (ev st x)))) /\
 (∀(γ:Bool) (st:St) k x,avalR γ st (.p7 k x)=andR (aq γ (ev st x)) (sF k (stripV (ev st x)))) /\
 (∀(γ:Bool) (st:St) k x,avalR γ st (.p6 k x)=andR (aq γ (ev st x)) (cfiR γ k (stripV (ev st x)))) /\
 (∀(γ:Bool) (st:St) x,avalR γ st (.qd x)=andR (aq γ (ev st x)) (cstR (stripV (ev st x)))) /\
 (∀(γ:Bool) (st:St) x,avalR γ st (.pY x)=andR (aq γ (ev st x)) (btsR γ (slE 1 st (stripV (ev st x))))) /\
 (∀(γ:Bool) (st:St) x y,avalR γ st (.qb x y)=andR (aq γ (ev st x)) (andR (aq γ (ev st y)) (cplxR (stripV (ev st x)) (stripV (ev st y))))) /\
 (∀(γ:Bool) (st:St) x,avalR γ st (.re x)=andR (aq γ (ev st x)) (reR (stripV (ev st x)))) /\
 (∀(γ:Bool) (st:St) x,avalR γ st (.im x)=andR (aq γ (ev st x)) (tS (stripV (ev st x)))) /\
 (∀(γ:Bool) (st:St) str x,avalR γ st (.len str x)=andR (aq γ (ev st x)) (lenR str (stripV (ev st x)))) /\
 (∀(γ:Bool) (st:St) mx x y,avalR γ st (.mm mx x y)=andR (aq γ (ev st x)) (andR (aq γ (ev st y)) (mmR mx (stripV (ev st x)) (stripV (ev st y))))) /\
 (∀(γ:Bool) (st:St) x i,avalR γ st (.ext x i)=andR (aq γ (ev st x)) (extR (stripV (ev st x)) i)) /\
 (∀(γ:Bool) (st:St) x,avalR γ st (.qT x)=andR (aq γ (ev st x)) (nilcR (stripV (ev st x)))) /\
 (∀(γ:Bool) (st:St) sz x i,avalR γ st (.eL sz x i)=andR (aq γ (ev st x)) (andR (aq γ (ev st i)) (idxR γ st sz (stripV (ev st x)) (stripV (ev st i))))) /\
 (∀(γ:Bool) (st:St) x i,avalR γ st (.rp x i)=andR (aq γ (ev st x)) (andR (aq γ (ev st i)) (sidxR γ (stripV (ev st x)) (stripV (ev st i))))) /\
 (∀(γ:Bool) (st:St) ag n x,avalR γ st (.ld ag n x)=andR (aq γ (ev st x)) (ldR γ st ag n (stripV (ev st x)))) /\
 (∀(γ:Bool) (st:St) x lo hi,avalR γ st (.rz x lo hi)=andR (aq γ (ev st x)) (u6 γ st lo hi (stripV (ev st x)))) /\
 (∀(γ:Bool) (st:St) sz x lo hi,avalR γ st (.ru sz x lo hi)=andR (aq γ (ev st x)) (slcAR γ st sz lo hi (stripV (ev st x)))) /\
 (∀(γ:Bool) (st:St) ag off n x,avalR γ st (.qo ag off n x)=andR (aq γ (ev st x)) (mU γ st ag off n (stripV (ev st x)))) /\
 (∀(γ:Bool) (st:St) ag off n x,avalR γ st (.qn ag off n x)=andR (aq γ (ev st x)) (fldR γ ag off n (stripV (ev st x)))):=
 ⟨(λ_ _ _=>rfl),(λ_ _ _ _ _=>rfl),(λ_ _ _ _ _=>rfl),(λ_ _ _ _ _=>rfl),(λ_ _ _ _=>rfl),(λ_ _ _ _=>rfl),(λ_ _ _ _=>rfl),(λ_ _ _ _=>rfl),(λ_ _ _=>rfl),(λ_ _ _=>rfl),(λ_ _ _ _=>rfl),(λ_ _ _=>rfl),(λ_ _ _=>rfl),(λ_ _ _ _=>rfl),(λ_ _ _ _ _=>rfl),(λ_ _ _ _=>rfl),(λ_ _ _=>rfl),(λ_ _ _ _ _=>rfl),(λ_ _ _ _=>rfl),(λ_ _ _ _ _=>rfl),(λ_ _ _ _ _=>rfl),(λ_ _ _ _ _ _=>rfl),(λ_ _ _ _ _ _=>rfl),(λ_ _ _ _ _ _=>rfl)⟩
theorem JT (γ:Bool) (st:St) (cs:List AV):bldR γ st [] cs=.ok True (.agg cs):=(rfl)
theorem JS (γ:Bool) (st:St) (o n:Nat) (x:AE) (r:List (Nat×Nat×AE)) (cs:List AV) :
    bldR γ st ((o,n,x)::r) cs=andR (aq γ (ev st x)) (andR (γ=true->aD (stripV (ev st x))=true/\(cellsOf (stripV (ev st x))).length=n/\o+n<=cs.length) (bldR γ st r (cs.take o++cellsOf (stripV (ev st x))++cs.drop (o+n)))):=(rfl)
theorem IY (γ:Bool) (st:St) (z:List AV) (ps:List (Nat×Nat×AE)):avalR γ st (.nW z ps)=bldR γ st ps z:=(rfl)
theorem I1 (γ:Bool) (st:St) (len sz:Nat) (x i:AE):avalR γ st (.qA len sz x i)=andR (aq γ (ev st x)) (andR (aq γ (ev st i)) (idxPR γ len sz (stripV (ev st x)) (stripV (ev st i)))):=(rfl)
theorem I2 (γ:Bool) (st:St) (len:Nat) (x i:AE):avalR γ st (.qB len x i)=andR (aq γ (ev st x)) (andR (aq γ (ev st i)) (idxVR γ len (stripV (ev st x)) (stripV (ev st i)))):=(rfl)
theorem I8 (γ:Bool) (st:St) (neg:Bool) (x:AE):avalR γ st (.o9 neg x)=andR (aq γ (ev st x)) (snilR γ st neg (stripV (ev st x))):=(rfl)
theorem Qw (γ:Bool) (len sz:Nat) (cs:List AV) (k:IntKind) (i:Int):idxPR γ len sz (.ao (.agg cs)) (.int k i)=.ok ((γ=true->0<=i/\i<len/\i<cs.length)/\sz=1/\isCell (cs.getD i.toNat .undef)=true) (.ao (cs.getD i.toNat .undef)):=(rfl)
theorem Qx (γ:Bool) (len sz id f:Nat) (k:IntKind) (i:Int):idxPR γ len sz (.aa id f) (.int k i)=.ok (γ=true->0<=i/\i<len) (.aa id (f+i.toNat*sz)):=(rfl)
theorem QA (γ:Bool) (len:Nat) (cs:List AV) (k:IntKind) (i:Int):idxVR γ len (.agg cs) (.int k i)=.ok (γ=true->0<=i/\i<len/\i<cs.length) (cs.getD i.toNat .undef):=(rfl)
theorem Zn (γ neg:Bool) (n sz:Nat) (es:List AV):u7 γ neg n (some (.arr sz es))=.ok (γ=true->0<n) (.bool neg):=(rfl)
theorem I3 (γ:Bool) (st:St) (neg:Bool) (x:AE):avalR γ st (.oI neg x)=andR (aq γ (ev st x)) (inilR γ neg (stripV (ev st x))):=(rfl)
theorem I5 (γ:Bool) (st:St) (t:TypeId) (x:AE):avalR γ st (.qL t x)=andR (aq γ (ev st x)) (mkiR t (stripV (ev st x))):=(rfl)
theorem IZ (γ:Bool) (st:St) (x:AE):avalR γ st (.qg x)=andR (aq γ (ev st x)) (sQ (stripV (ev st x))):=(rfl)
def ng (st:St):List AE->List AV
 | []=>[]
 | x::r=>ev st x::ng st r
theorem DS (st:St):∀l,l.map (ev st)=ng st l
 | []=>rfl
 | x::r=>by rw[adk,DS st r];rfl
theorem Um (st:St):ng st []=[]/\(∀x r,ng st (x::r)=ev st x::ng st r):=⟨rfl,λ_ _=>rfl⟩
theorem abo:nG []=true/\(∀i f r,nG (.aa i f::r)=nG r):=⟨rfl,λ_ _ _=>rfl⟩
theorem I4 (γ:Bool) (st:St) (f:Nat) (xs:List AE):avalR γ st (.qK f xs)=.ok (nG (ng st xs)=true) (.aA f (ng st xs)):=by rw[<-DS];rfl
theorem RM (f:Nat) (cs:List AV) (a:AV):keep1 (.aA f cs) a=[]:=(rfl)
theorem RO (p f g:Nat) (cs:List AV):keep1 (.aa p f) (.aA g cs)=[]:=(rfl)
theorem Jv (s:List (Nat×AV)) (h:HP) (k0 f:Nat) (cs:List AV):back1 s h k0 (.aA f cs)=[]:=(rfl)
theorem L5 (k:IntKind) (n:Int):sQ (.int k n)=.ok True (.str (Utf8.encode n).data.toList):=(rfl)
theorem Uy (t:TypeId):mkiR t (.agg [])=.ok True (.lit (.iface t (.agg #[]))):=(rfl)
theorem Ux (t:TypeId) (k:IntKind) (n:Int):mkiR t (.int k n)=.ok True (.lit (.iface t (.int k n))):=(rfl)
theorem UA (id:Nat) (st:St) (sz bytes:Nat) (z:List AV) (n m:Int):mksR id st sz bytes z (.int .i64 n) (.int .i64 m)=.ok (0<=n/\m=n/\n<=16777216/\n*bytes<=16777216/\z.all noRefC=true/\z.length=sz) (.sl id 0 n.toNat) (bL st id (.arr sz (List.replicate n.toNat (packC z)))):=(rfl)
theorem I7 (γ:Bool) (st:St) (neg:Bool) (x:AE):avalR γ st (.oU neg x)=andR (aq γ (ev st x)) (pnilR neg (stripV (ev st x))):=(rfl)
theorem WY (neg:Bool) (x:AV):pnilR neg (.ao x)=.ok True (.bool neg):=(rfl)
theorem W3 (neg:Bool) (i f:Nat):pnilR neg (.aa i f)=.ok True (.bool neg):=(rfl)
theorem WZ (neg:Bool):pnilR neg (.lit (.pointer none))=.ok True (.bool (!neg)):=(rfl)
theorem QX (γ neg:Bool):inilR γ neg (.lit .nilIface)=.ok True (.bool (if neg then false else true)):=by cases neg<;>simp[inilR,isNilV,isIfV]
theorem QW (γ neg:Bool) (t:TypeId) (v:Value):inilR γ neg (.lit (.iface t v))=.ok True (.bool (if neg then true else false)):=by cases neg<;>simp[inilR,isNilV,isIfV]
theorem I6 (γ:Bool) (st:St) kd ok z (x i:AE):avalR γ st (.qM kd ok z x i)=andR (aq γ (ev st x)) (andR (aq γ (ev st i)) (mlkR st kd ok z (stripV (ev st x)) (stripV (ev st i)))):=(rfl)
theorem Uw (l:List UInt8):mkOf (.str l)=some (.s l):=(rfl)
theorem Uv (k:IntKind) (n:Int):mkOf (.int k n)=some (.i k n):=(rfl)
theorem UE (st:St) kd ok z id i f (x:AV):mlkR st kd ok z (.ptr id i f) x=mlkK st kd ok z id (mkOf x):=(rfl)
theorem UC (st:St) kd ok z id k:mlkK st kd ok z id (some k)=mlkW kd ok z k (hget st.h id):=(rfl)
theorem UF kd ok z k kd' (l:List (MK×AV)):mlkW kd ok z k (some (.mp kd' l))=.ok (kd'=kd/\MK.ok kd k) (qN ok z (mfind l k)):=(rfl)
theorem UL (z:AV) (o:Option AV):qN true z o=.ab [o.getD z,.bool o.isSome]:=(rfl)
theorem UK (z:AV) (o:Option AV):qN false z o=o.getD z:=(rfl)
theorem Hp (b:List UInt8):MK.ok none (.s b)=True:=(rfl)
theorem Ho (k k':IntKind) (n:Int):MK.ok (some k) (.i k' n)=(k'=k):=(rfl)
theorem UP (st:St) kd id i f (k v:AV):mupR st kd (.ptr id i f) k v=mupK st id kd (mkOf k) v:=(rfl)
theorem UO (st:St) id kd k (v:AV):mupK st id kd (some k) v=mupW st id kd k v (hget st.h id):=(rfl)
theorem UQ (st:St) id kd k (v:AV) kd' (l:List (MK×AV)):mupW st id kd k v (some (.mp kd' l))=.ok (kd'=kd/\MK.ok kd k/\bF v=true) .undef ⟨st.s,bo st.h id (.mp kd (mput l k v))⟩:=(rfl)
theorem Nh (id:Nat) (st:St) kd:effR id st (.nh kd)=.ok True (.ptr id 0 0) (bL st id (.mp kd [])):=(rfl)
theorem Ni (id:Nat) (st:St) kd x k v:effR id st (.nj kd x k v)=mupR st kd (ev st x) (ev st k) (ev st v):=(rfl)
theorem Zm :
 (∀(γ:Bool) (st:St) (neg:Bool),snilR γ st neg (.an)=.ok True (.bool (!neg))) /\
 (∀(γ:Bool) (st:St) (neg:Bool) id o n,snilR γ st neg (.sl id o n)=u7 γ neg n (hget st.h id)) /\
 (∀(γ:Bool) (st:St) (neg:Bool) sz es,snilR γ st neg (.ro sz es)=.ok (γ=true->0<es.length/\0<sz) (.bool neg)):=
 ⟨(λ_ _ _=>rfl),(λ_ _ _ _ _ _=>rfl),(λ_ _ _ _ _=>rfl)⟩
theorem Sa :
 (∀(st:St) (id:Nat) (o:Nat) (n:Nat) sz es,keepSl st id o n (some (.arr sz es))=.ok True (.ro sz (aB es o n)) (freeze st id)):=
 (λ_ _ _ _ _ _=>rfl)
theorem XU :
 (∀(c:Prop) (v:AV) d vs st,rl2 c v (.ok d vs st)=.ok (c/\d) (v::vs) st) /\
 (∀(c:Prop) (v:AV),rl2 c v (.fail)=.fail):=
 ⟨(λ_ _ _ _ _=>rfl),(λ_ _=>rfl)⟩
theorem XT :
 (∀(r:List AE) c v st1,yR r (.ok c v st1)=rl2 c v (keepLR r st1)) /\
 (∀(r:List AE),yR r (.fail)=.fail):=
 ⟨(λ_ _ _ _=>rfl),(λ_=>rfl)⟩
theorem Kn :
 (∀(id:Nat) (sz:Nat) c es st',pX id sz (.ok c es st')=.ok (c/\es.all (λe=>(cellsOf e).length==sz)=true) (.sl id 0 es.length) (bL st' id (.arr sz es))) /\
 (∀(id:Nat) (sz:Nat),pX id sz (.fail)=.fail):=
 ⟨(λ_ _ _ _ _=>rfl),(λ_ _=>rfl)⟩
theorem IC :
 (∀(st:St) (sz:Nat) (bytes:Nat) (id:Nat) (off:Nat) (n:Nat) (xs:List AV) sz' es,sf st sz bytes id off n xs (some (.arr sz' es))=.ok (xs.all aD=true/\sz'=sz/\(aB es off n).all aD=true/\(n+xs.length)*bytes<=140737488355328/\n+xs.length<=9223372036854775807) (.sl id 0 (n+xs.length)) (bL st id (.arr sz (aB es off n++xs)))):=
 (λ_ _ _ _ _ _ _ _ _=>rfl)
theorem IB :
 (∀(d:Nat) (st:St) (sz:Nat) (bytes:Nat) xs,appR d st sz bytes (.an) (some xs)=.ok (xs.all aD=true/\xs.length*bytes<=140737488355328/\xs.length<=9223372036854775807) (.sl d 0 xs.length) (bL st d (.arr sz xs))) /\
 (∀(d:Nat) (st:St) (sz:Nat) (bytes:Nat) xs id off n,appR d st sz bytes (.sl id off n) (some xs)=sf st sz bytes id off n xs (hget st.h id)):=
 ⟨(λ_ _ _ _ _=>rfl),(λ_ _ _ _ _ _ _ _=>rfl)⟩
theorem ZS :
 (∀(st:St) (n:Nat) (id:Nat) (i:Nat) (f:Nat) (v:AV) sz es,vc st n id i f v (some (.arr sz es))=.ok ((cellsOf v).length=n/\0<n/\f+n<=sz) .undef ⟨st.s,bo st.h id (.arr sz (es.set i (jG (nth es i) f v)))⟩):=
 (λ_ _ _ _ _ _ _ _=>rfl)
theorem ZM :
 (∀(n:Nat) (id:Nat) (i:Nat) (f:Nat) (c:Prop) (v:AV) (st:St) d u st',rE n id i f c v st (.ok d u st')=.ok (c/\d) u st') /\
 (∀(n:Nat) (id:Nat) (i:Nat) (f:Nat) (c:Prop) (v:AV) (st:St),rE n id i f c v st (.fail)=.fail):=
 ⟨(λ_ _ _ _ _ _ _ _ _ _=>rfl),(λ_ _ _ _ _ _ _=>rfl)⟩
theorem ZN :
 (∀(n:Nat) (id:Nat) (i:Nat) (f:Nat) c v st,rD n id i f (.ok c v st)=rE n id i f c v st (vc st n id i f v (hget st.h id))) /\
 (∀(n:Nat) (id:Nat) (i:Nat) (f:Nat),rD n id i f (.fail)=.fail):=
 ⟨(λ_ _ _ _ _ _ _=>rfl),(λ_ _ _ _=>rfl)⟩
theorem ZR :
 (∀(st:St) (n:Nat) (id:Nat) (f:Nat) (v:AV) cs,stV st n id f v (some (.var cs))=.ok (aD v=true/\(cellsOf v).length=n/\f+n<=cs.length) .undef ⟨st.s,bo st.h id (.var (bV cs f (cellsOf v)))⟩):=
 (λ_ _ _ _ _ _=>rfl)
theorem ZP :
 (∀(st:St) (n:Nat) (v:AV) id i f,stR st n (.ptr id i f) v=rD n id i f (keepR st v)) /\
 (∀(st:St) (n:Nat) (v:AV) id f,stR st n (.aa id f) v=stV st n id f v (hget st.h id)):=
 ⟨(λ_ _ _ _ _ _=>rfl),(λ_ _ _ _ _=>rfl)⟩
theorem ZU :
 (∀(st:St) (id:Nat) l,stbR st id (.str l)=.ok True (.sl id 0 l.length) (bL st id (.arr 1 (l.map ub)))):=
 (λ_ _ _=>rfl)
theorem Ng :
 (∀(id:Nat) (st:St) z,effR id st (.alloc z)=.ok (z.all noRefC=true) (.aa id 0) (bL st id (.var (z.map (killC id))))) /\
 (∀(id:Nat) (st:St) n x,effR id st (.box n x)=.ok (aD (ev st x)=true/\(cellsOf (ev st x)).length=n) (.aa id 0) (bL st id (.var ((cellsOf (ev st x)).map (killC id))))) /\
 (∀(id:Nat) (st:St) sz xs,effR id st (.mE sz xs)=pX id sz (keepLR xs st)) /\
 (∀(id:Nat) (st:St) sz bytes s x,effR id st (.app sz bytes s x)=appR id st sz bytes (ev st s) (srcE sz st (ev st x))) /\
 (∀(id:Nat) (st:St) n x v,effR id st (.st n x v)=stR st n (ev st x) (ev st v)) /\
 (∀(id:Nat) (st:St) sz b z l c,effR id st (.ni sz b z l c)=mksR id st sz b z (ev st l) (ev st c)) /\
 (∀(id:Nat) (st:St) x,effR id st (.nz x)=stbR st id (ev st x)):=
 ⟨(λ_ _ _=>rfl),(λ_ _ _ _=>rfl),(λ_ _ _ _=>rfl),(λ_ _ _ _ _ _=>rfl),(λ_ _ _ _ _=>rfl),(λ_ _ _ _ _ _ _=>rfl),(λ_ _ _=>rfl)⟩
attribute [go_sem] I7 WY W3 WZ I6 Uw Uv UE UC UF UL UK Hp Ho UP UO UQ Nh Ni adi ac8 ads afe Um abo I4 RM RO Jv NI Xh Pv U3 Sl OZ XA RG QO Ol QM Oe UX Vw Xz Xy ZQ ZL ZK QD QC Y9 RE RQ RU RW RN Jr JD JA JC Jw HW ZG Y8 KI YE VZ WJ WK R9 Ig Q0 Z1 Oi L8 JR JI ND QH NA NG NF NC NB HT IX aaV L4 Lf K7 LU Kp LJ Xq QJ TW UI NJ U9 QB Qz Y3 TJ TC TI TH Jo Jp Jq J4 Zg Ze Zc Zd Zf Zb Oz Ox Ow Oy I0 JT JS IY I1 I2 I8 Qx Qw QA Zn Zm I3 QX QW I5 Uy Ux UA IZ L5 Sa XU XT Kn IC IB ZS ZM ZN ZR ZP ZU Ng LZ LY YH YG Ke R7 R6 Kg Sc Sb Sm OT OS O0 Xx Xw XB RJ RI RF Kj Kk JH Ka Kh Va Od Rh Vc Vb Oa Oj OK OJ Og QL QK QN Z7 Z6
end Go.Proofs.YtgghhaahnpbnmaaGreatDoor.Eng
