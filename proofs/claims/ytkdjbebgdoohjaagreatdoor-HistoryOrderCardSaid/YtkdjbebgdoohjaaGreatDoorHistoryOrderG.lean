/- The proof, part 7 of 50. -/
import Derived.Test.YtkdjbebgdoohjaaGreatDoorHistoryOrderF
set_option linter.all false
namespace Go.Proofs.YtkdjbebgdoohjaaGreatDoor.Eng
def cu (b:Bool) (x:AV):AV:=match b with
 | true=>.undef
 | false=>x
def jO (b:Bool) (x y:AV):AV:=match b with
 | true=>x
 | false=>y
theorem gb {i j:Nat} {x:AV}:(if i=j then AV.undef else x)=cu (i==j) x:=by
 by_cases h:i=j
 ·subst h;rw[if_pos rfl,show(i==i)=true by simp];rfl
 ·rw[if_neg h,show(i==j)=false by simp[h]];rfl
theorem wa {i j:Nat} {x y:AV}:(if i=j then x else y)=jO (i==j) x y:=by
 by_cases h:i=j
 ·subst h;rw[if_pos rfl,show(i==i)=true by simp];rfl
 ·rw[if_neg h,show(i==j)=false by simp[h]];rfl
theorem kg {b:Bool} {x:AV}:(if b=true then AV.undef else x)=cu b x:=by cases b<;>rfl
theorem wb {b:Bool} {x y:AV}:(if b=true then x else y)=jO b x y:=by cases b<;>rfl
theorem Jy {x:AV}:cu true x=.undef:=(rfl)
theorem Jw {x:AV}:cu false x=x:=(rfl)
theorem VQ {x y:AV}:jO true x y=x:=(rfl)
theorem VP {x y:AV}:jO false x y=y:=(rfl)
def borSl (W:Option aC) (o n:Nat):AV:=match W with
 | some (.arr sz es)=>.ro sz (az es o n)
 | _=>.undef
theorem HW {sz o n:Nat} {es:List AV}:borSl (some (.arr sz es)) o n=.ro sz (az es o n):=(rfl)
def keepO (W:Option aC) (x y:AV):AV:=match W with
 | some _=>x
 | none=>y
theorem O0 {W:aC} {x y:AV}:keepO (some W) x y=x:=(rfl)
theorem OZ {x y:AV}:keepO none x y=y:=(rfl)
def borV (h0 h:HP) (W:Option aC) (f:Nat):AV:=match W,f with
 | some (.var cs),0=>.ao (packC (cs.map (bcell h0 h)))
 | _,_=>.undef
theorem HX {h0 h:HP} {cs:List AV}:borV h0 h (some (.var cs)) 0=.ao (packC (cs.map (bcell h0 h))):=(rfl)
theorem O6 (id:Nat) :
 (killC id AV.undef=AV.undef) /\
 (∀(b:Bool),killC id (.bool b)=(.bool b)) /\
 (∀(k:IntKind) (n:Int),killC id (.int k n)=(.int k n)) /\
 (∀(k:FloatKind) (n:Nat),killC id (.fl k n)=(.fl k n)) /\
 (∀(k:FloatKind) (a b:Nat),killC id (.cx k a b)=(.cx k a b)) /\
 (∀(l:List UInt8),killC id (.str l)=(.str l)) /\
 (∀(x:Value),killC id (.lit x)=(.lit x)) /\
 (killC id AV.aj=AV.aj) /\
 (∀(sz0:Nat) (es0:List AV),killC id (.ro sz0 es0)=(.ro sz0 es0)) /\
 (∀(x:AV),killC id (.ao x)=(.ao x)) /\
 (∀(i o n:Nat),killC id (.sl i o n)=cu (i==id) (.sl i o n)) /\
 (∀(i j f:Nat),killC id (.ptr i j f)=cu (i==id) (.ptr i j f)) /\
 (∀(i f:Nat),killC id (.aa i f)=cu (i==id) (.aa i f)) /\
 (∀(cs:List AV),killC id (.agg cs)=AV.undef) /\
 (∀(cs:List AV),killC id (.ab cs)=AV.undef) /\
 (∀(b:Bool) (x:AV),killC id (.gd b x)=AV.undef) /\
 (∀(f:Nat) (cs:List AV),killC id (.aB f cs)=AV.undef):=
 ⟨rfl,λ_=>rfl,λ_ _=>rfl,λ_ _=>rfl,λ_ _ _=>rfl,λ_=>rfl,λ_=>rfl,rfl,λ_ _=>rfl,λ_=>rfl,λ_ _ _=>gb,λ_ _ _=>gb,λ_ _=>gb,λ_=>rfl,λ_=>rfl,λ_ _=>rfl,λ_ _=>rfl⟩
theorem O5 (id:Nat) :
 (killA id AV.undef=AV.undef) /\
 (∀(b:Bool),killA id (.bool b)=(.bool b)) /\
 (∀(k:IntKind) (n:Int),killA id (.int k n)=(.int k n)) /\
 (∀(k:FloatKind) (n:Nat),killA id (.fl k n)=(.fl k n)) /\
 (∀(k:FloatKind) (a b:Nat),killA id (.cx k a b)=(.cx k a b)) /\
 (∀(l:List UInt8),killA id (.str l)=(.str l)) /\
 (∀(x:Value),killA id (.lit x)=(.lit x)) /\
 (killA id AV.aj=AV.aj) /\
 (∀(sz0:Nat) (es0:List AV),killA id (.ro sz0 es0)=(.ro sz0 es0)) /\
 (∀(x:AV),killA id (.ao x)=(.ao x)) /\
 (∀(i o n:Nat),killA id (.sl i o n)=cu (i==id) (.sl i o n)) /\
 (∀(i j f:Nat),killA id (.ptr i j f)=cu (i==id) (.ptr i j f)) /\
 (∀(i f:Nat),killA id (.aa i f)=cu (i==id) (.aa i f)) /\
 (∀(cs:List AV),killA id (.agg cs)=.agg (cs.map (killC id))) /\
 (∀(cs:List AV),killA id (.ab cs)=AV.undef) /\
 (∀(b:Bool) (x:AV),killA id (.gd b x)=AV.undef) /\
 (∀(f:Nat) (cs:List AV),killA id (.aB f cs)=.aB f (cs.map (killC id))):=
 ⟨rfl,λ_=>rfl,λ_ _=>rfl,λ_ _=>rfl,λ_ _ _=>rfl,λ_=>rfl,λ_=>rfl,rfl,λ_ _=>rfl,λ_=>rfl,λ_ _ _=>gb,λ_ _ _=>gb,λ_ _=>gb,λ_=>rfl,λ_=>rfl,λ_ _=>rfl,λ_ _=>rfl⟩
theorem Pe (id:Nat) :
 (kill id AV.undef=AV.undef) /\
 (∀(b:Bool),kill id (.bool b)=(.bool b)) /\
 (∀(k:IntKind) (n:Int),kill id (.int k n)=(.int k n)) /\
 (∀(k:FloatKind) (n:Nat),kill id (.fl k n)=(.fl k n)) /\
 (∀(k:FloatKind) (a b:Nat),kill id (.cx k a b)=(.cx k a b)) /\
 (∀(l:List UInt8),kill id (.str l)=(.str l)) /\
 (∀(x:Value),kill id (.lit x)=(.lit x)) /\
 (kill id AV.aj=AV.aj) /\
 (∀(sz0:Nat) (es0:List AV),kill id (.ro sz0 es0)=(.ro sz0 es0)) /\
 (∀(x:AV),kill id (.ao x)=(.ao x)) /\
 (∀(i o n:Nat),kill id (.sl i o n)=cu (i==id) (.sl i o n)) /\
 (∀(i j f:Nat),kill id (.ptr i j f)=cu (i==id) (.ptr i j f)) /\
 (∀(i f:Nat),kill id (.aa i f)=cu (i==id) (.aa i f)) /\
 (∀(cs:List AV),kill id (.agg cs)=.agg (cs.map (killC id))) /\
 (∀(cs:List AV),kill id (.ab cs)=.ab (cs.map (killA id))) /\
 (∀(b:Bool) (x:AV),kill id (.gd b x)=.gd b (killA id x)) /\
 (∀(f:Nat) (cs:List AV),kill id (.aB f cs)=.aB f (cs.map (killC id))):=
 ⟨rfl,λ_=>rfl,λ_ _=>rfl,λ_ _=>rfl,λ_ _ _=>rfl,λ_=>rfl,λ_=>rfl,rfl,λ_ _=>rfl,λ_=>rfl,λ_ _ _=>gb,λ_ _ _=>gb,λ_ _=>gb,λ_=>rfl,λ_=>rfl,λ_ _=>rfl,λ_ _=>rfl⟩
theorem L7 (id sz:Nat) (es:List AV) :
 (bP id sz es AV.undef=AV.undef) /\
 (∀(b:Bool),bP id sz es (.bool b)=(.bool b)) /\
 (∀(k:IntKind) (n:Int),bP id sz es (.int k n)=(.int k n)) /\
 (∀(k:FloatKind) (n:Nat),bP id sz es (.fl k n)=(.fl k n)) /\
 (∀(k:FloatKind) (a b:Nat),bP id sz es (.cx k a b)=(.cx k a b)) /\
 (∀(l:List UInt8),bP id sz es (.str l)=(.str l)) /\
 (∀(x:Value),bP id sz es (.lit x)=(.lit x)) /\
 (bP id sz es AV.aj=AV.aj) /\
 (∀(sz0:Nat) (es0:List AV),bP id sz es (.ro sz0 es0)=(.ro sz0 es0)) /\
 (∀(x:AV),bP id sz es (.ao x)=(.ao x)) /\
 (∀(i o n:Nat),bP id sz es (.sl i o n)=jO (i==id) (.ro sz (az es o n)) (.sl i o n)) /\
 (∀(i j f:Nat),bP id sz es (.ptr i j f)=cu (i==id) (.ptr i j f)) /\
 (∀(i f:Nat),bP id sz es (.aa i f)=cu (i==id) (.aa i f)) /\
 (∀(cs:List AV),bP id sz es (.agg cs)=AV.undef) /\
 (∀(cs:List AV),bP id sz es (.ab cs)=AV.undef) /\
 (∀(b:Bool) (x:AV),bP id sz es (.gd b x)=AV.undef) /\
 (∀(f:Nat) (cs:List AV),bP id sz es (.aB f cs)=AV.undef):=
 ⟨rfl,λ_=>rfl,λ_ _=>rfl,λ_ _=>rfl,λ_ _ _=>rfl,λ_=>rfl,λ_=>rfl,rfl,λ_ _=>rfl,λ_=>rfl,λ_ _ _=>wa,λ_ _ _=>gb,λ_ _=>gb,λ_=>rfl,λ_=>rfl,λ_ _=>rfl,λ_ _=>rfl⟩
theorem L6 (id sz:Nat) (es:List AV) :
 (cG id sz es AV.undef=AV.undef) /\
 (∀(b:Bool),cG id sz es (.bool b)=(.bool b)) /\
 (∀(k:IntKind) (n:Int),cG id sz es (.int k n)=(.int k n)) /\
 (∀(k:FloatKind) (n:Nat),cG id sz es (.fl k n)=(.fl k n)) /\
 (∀(k:FloatKind) (a b:Nat),cG id sz es (.cx k a b)=(.cx k a b)) /\
 (∀(l:List UInt8),cG id sz es (.str l)=(.str l)) /\
 (∀(x:Value),cG id sz es (.lit x)=(.lit x)) /\
 (cG id sz es AV.aj=AV.aj) /\
 (∀(sz0:Nat) (es0:List AV),cG id sz es (.ro sz0 es0)=(.ro sz0 es0)) /\
 (∀(x:AV),cG id sz es (.ao x)=(.ao x)) /\
 (∀(i o n:Nat),cG id sz es (.sl i o n)=jO (i==id) (.ro sz (az es o n)) (.sl i o n)) /\
 (∀(i j f:Nat),cG id sz es (.ptr i j f)=cu (i==id) (.ptr i j f)) /\
 (∀(i f:Nat),cG id sz es (.aa i f)=cu (i==id) (.aa i f)) /\
 (∀(cs:List AV),cG id sz es (.agg cs)=.agg (cs.map (bP id sz es))) /\
 (∀(cs:List AV),cG id sz es (.ab cs)=AV.undef) /\
 (∀(b:Bool) (x:AV),cG id sz es (.gd b x)=AV.undef) /\
 (∀(f:Nat) (cs:List AV),cG id sz es (.aB f cs)=.aB f (cs.map (bP id sz es))):=
 ⟨rfl,λ_=>rfl,λ_ _=>rfl,λ_ _=>rfl,λ_ _ _=>rfl,λ_=>rfl,λ_=>rfl,rfl,λ_ _=>rfl,λ_=>rfl,λ_ _ _=>wa,λ_ _ _=>gb,λ_ _=>gb,λ_=>rfl,λ_=>rfl,λ_ _=>rfl,λ_ _=>rfl⟩
theorem Mg (id sz:Nat) (es:List AV) :
 (bo id sz es AV.undef=AV.undef) /\
 (∀(b:Bool),bo id sz es (.bool b)=(.bool b)) /\
 (∀(k:IntKind) (n:Int),bo id sz es (.int k n)=(.int k n)) /\
 (∀(k:FloatKind) (n:Nat),bo id sz es (.fl k n)=(.fl k n)) /\
 (∀(k:FloatKind) (a b:Nat),bo id sz es (.cx k a b)=(.cx k a b)) /\
 (∀(l:List UInt8),bo id sz es (.str l)=(.str l)) /\
 (∀(x:Value),bo id sz es (.lit x)=(.lit x)) /\
 (bo id sz es AV.aj=AV.aj) /\
 (∀(sz0:Nat) (es0:List AV),bo id sz es (.ro sz0 es0)=(.ro sz0 es0)) /\
 (∀(x:AV),bo id sz es (.ao x)=(.ao x)) /\
 (∀(i o n:Nat),bo id sz es (.sl i o n)=jO (i==id) (.ro sz (az es o n)) (.sl i o n)) /\
 (∀(i j f:Nat),bo id sz es (.ptr i j f)=cu (i==id) (.ptr i j f)) /\
 (∀(i f:Nat),bo id sz es (.aa i f)=cu (i==id) (.aa i f)) /\
 (∀(cs:List AV),bo id sz es (.agg cs)=.agg (cs.map (bP id sz es))) /\
 (∀(cs:List AV),bo id sz es (.ab cs)=.ab (cs.map (cG id sz es))) /\
 (∀(b:Bool) (x:AV),bo id sz es (.gd b x)=.gd b (cG id sz es x)) /\
 (∀(f:Nat) (cs:List AV),bo id sz es (.aB f cs)=.aB f (cs.map (bP id sz es))):=
 ⟨rfl,λ_=>rfl,λ_ _=>rfl,λ_ _=>rfl,λ_ _ _=>rfl,λ_=>rfl,λ_=>rfl,rfl,λ_ _=>rfl,λ_=>rfl,λ_ _ _=>wa,λ_ _ _=>gb,λ_ _=>gb,λ_=>rfl,λ_=>rfl,λ_ _=>rfl,λ_ _=>rfl⟩
theorem UA (id id':Nat) :
 (bQ id id' AV.undef=AV.undef) /\
 (∀(b:Bool),bQ id id' (.bool b)=(.bool b)) /\
 (∀(k:IntKind) (n:Int),bQ id id' (.int k n)=(.int k n)) /\
 (∀(k:FloatKind) (n:Nat),bQ id id' (.fl k n)=(.fl k n)) /\
 (∀(k:FloatKind) (a b:Nat),bQ id id' (.cx k a b)=(.cx k a b)) /\
 (∀(l:List UInt8),bQ id id' (.str l)=(.str l)) /\
 (∀(x:Value),bQ id id' (.lit x)=(.lit x)) /\
 (bQ id id' AV.aj=AV.aj) /\
 (∀(sz0:Nat) (es0:List AV),bQ id id' (.ro sz0 es0)=(.ro sz0 es0)) /\
 (∀(x:AV),bQ id id' (.ao x)=(.ao x)) /\
 (∀(i o n:Nat),bQ id id' (.sl i o n)=.sl (rn id id' i) o n) /\
 (∀(i j f:Nat),bQ id id' (.ptr i j f)=.ptr (rn id id' i) j f) /\
 (∀(i f:Nat),bQ id id' (.aa i f)=.aa (rn id id' i) f) /\
 (∀(cs:List AV),bQ id id' (.agg cs)=AV.undef) /\
 (∀(cs:List AV),bQ id id' (.ab cs)=AV.undef) /\
 (∀(b:Bool) (x:AV),bQ id id' (.gd b x)=AV.undef) /\
 (∀(f:Nat) (cs:List AV),bQ id id' (.aB f cs)=AV.undef):=
 ⟨rfl,λ_=>rfl,λ_ _=>rfl,λ_ _=>rfl,λ_ _ _=>rfl,λ_=>rfl,λ_=>rfl,rfl,λ_ _=>rfl,λ_=>rfl,λ_ _ _=>rfl,λ_ _ _=>rfl,λ_ _=>rfl,λ_=>rfl,λ_=>rfl,λ_ _=>rfl,λ_ _=>rfl⟩
theorem Uz (id id':Nat) :
 (cD id id' AV.undef=AV.undef) /\
 (∀(b:Bool),cD id id' (.bool b)=(.bool b)) /\
 (∀(k:IntKind) (n:Int),cD id id' (.int k n)=(.int k n)) /\
 (∀(k:FloatKind) (n:Nat),cD id id' (.fl k n)=(.fl k n)) /\
 (∀(k:FloatKind) (a b:Nat),cD id id' (.cx k a b)=(.cx k a b)) /\
 (∀(l:List UInt8),cD id id' (.str l)=(.str l)) /\
 (∀(x:Value),cD id id' (.lit x)=(.lit x)) /\
 (cD id id' AV.aj=AV.aj) /\
 (∀(sz0:Nat) (es0:List AV),cD id id' (.ro sz0 es0)=(.ro sz0 es0)) /\
 (∀(x:AV),cD id id' (.ao x)=(.ao x)) /\
 (∀(i o n:Nat),cD id id' (.sl i o n)=.sl (rn id id' i) o n) /\
 (∀(i j f:Nat),cD id id' (.ptr i j f)=.ptr (rn id id' i) j f) /\
 (∀(i f:Nat),cD id id' (.aa i f)=.aa (rn id id' i) f) /\
 (∀(cs:List AV),cD id id' (.agg cs)=.agg (cs.map (bQ id id'))) /\
 (∀(cs:List AV),cD id id' (.ab cs)=AV.undef) /\
 (∀(b:Bool) (x:AV),cD id id' (.gd b x)=AV.undef) /\
 (∀(f:Nat) (cs:List AV),cD id id' (.aB f cs)=.aB f (cs.map (bQ id id'))):=
 ⟨rfl,λ_=>rfl,λ_ _=>rfl,λ_ _=>rfl,λ_ _ _=>rfl,λ_=>rfl,λ_=>rfl,rfl,λ_ _=>rfl,λ_=>rfl,λ_ _ _=>rfl,λ_ _ _=>rfl,λ_ _=>rfl,λ_=>rfl,λ_=>rfl,λ_ _=>rfl,λ_ _=>rfl⟩
theorem UE (id id':Nat) :
 (dA id id' AV.undef=AV.undef) /\
 (∀(b:Bool),dA id id' (.bool b)=(.bool b)) /\
 (∀(k:IntKind) (n:Int),dA id id' (.int k n)=(.int k n)) /\
 (∀(k:FloatKind) (n:Nat),dA id id' (.fl k n)=(.fl k n)) /\
 (∀(k:FloatKind) (a b:Nat),dA id id' (.cx k a b)=(.cx k a b)) /\
 (∀(l:List UInt8),dA id id' (.str l)=(.str l)) /\
 (∀(x:Value),dA id id' (.lit x)=(.lit x)) /\
 (dA id id' AV.aj=AV.aj) /\
 (∀(sz0:Nat) (es0:List AV),dA id id' (.ro sz0 es0)=(.ro sz0 es0)) /\
 (∀(x:AV),dA id id' (.ao x)=(.ao x)) /\
 (∀(i o n:Nat),dA id id' (.sl i o n)=.sl (rn id id' i) o n) /\
 (∀(i j f:Nat),dA id id' (.ptr i j f)=.ptr (rn id id' i) j f) /\
 (∀(i f:Nat),dA id id' (.aa i f)=.aa (rn id id' i) f) /\
 (∀(cs:List AV),dA id id' (.agg cs)=.agg (cs.map (bQ id id'))) /\
 (∀(cs:List AV),dA id id' (.ab cs)=.ab (cs.map (cD id id'))) /\
 (∀(b:Bool) (x:AV),dA id id' (.gd b x)=.gd b (cD id id' x)) /\
 (∀(f:Nat) (cs:List AV),dA id id' (.aB f cs)=.aB f (cs.map (bQ id id'))):=
 ⟨rfl,λ_=>rfl,λ_ _=>rfl,λ_ _=>rfl,λ_ _ _=>rfl,λ_=>rfl,λ_=>rfl,rfl,λ_ _=>rfl,λ_=>rfl,λ_ _ _=>rfl,λ_ _ _=>rfl,λ_ _=>rfl,λ_=>rfl,λ_=>rfl,λ_ _=>rfl,λ_ _=>rfl⟩
theorem OP (ids keep:List Nat) :
 (bW ids keep AV.undef=AV.undef) /\
 (∀(b:Bool),bW ids keep (.bool b)=(.bool b)) /\
 (∀(k:IntKind) (n:Int),bW ids keep (.int k n)=(.int k n)) /\
 (∀(k:FloatKind) (n:Nat),bW ids keep (.fl k n)=(.fl k n)) /\
 (∀(k:FloatKind) (a b:Nat),bW ids keep (.cx k a b)=(.cx k a b)) /\
 (∀(l:List UInt8),bW ids keep (.str l)=(.str l)) /\
 (∀(x:Value),bW ids keep (.lit x)=(.lit x)) /\
 (bW ids keep AV.aj=AV.aj) /\
 (∀(sz0:Nat) (es0:List AV),bW ids keep (.ro sz0 es0)=(.ro sz0 es0)) /\
 (∀(x:AV),bW ids keep (.ao x)=(.ao x)) /\
 (∀(i o n:Nat),bW ids keep (.sl i o n)=cu (memN i ids) (.sl i o n)) /\
 (∀(i j f:Nat),bW ids keep (.ptr i j f)=cu (memN i ids) (.ptr i j f)) /\
 (∀(i f:Nat),bW ids keep (.aa i f)=jO (memN i keep) (.aa i f) (cu (memN i ids) (.aa i f))) /\
 (∀(cs:List AV),bW ids keep (.agg cs)=AV.undef) /\
 (∀(cs:List AV),bW ids keep (.ab cs)=AV.undef) /\
 (∀(b:Bool) (x:AV),bW ids keep (.gd b x)=AV.undef) /\
 (∀(f:Nat) (cs:List AV),bW ids keep (.aB f cs)=AV.undef):=
 ⟨rfl,λ_=>rfl,λ_ _=>rfl,λ_ _=>rfl,λ_ _ _=>rfl,λ_=>rfl,λ_=>rfl,rfl,λ_ _=>rfl,λ_=>rfl,λ_ _ _=>kg,λ_ _ _=>kg,λ_ _=>(by rw[<-kg,<-wb];rfl),λ_=>rfl,λ_=>rfl,λ_ _=>rfl,λ_ _=>rfl⟩
theorem OO (ids keep:List Nat) :
 (cK ids keep AV.undef=AV.undef) /\
 (∀(b:Bool),cK ids keep (.bool b)=(.bool b)) /\
 (∀(k:IntKind) (n:Int),cK ids keep (.int k n)=(.int k n)) /\
 (∀(k:FloatKind) (n:Nat),cK ids keep (.fl k n)=(.fl k n)) /\
 (∀(k:FloatKind) (a b:Nat),cK ids keep (.cx k a b)=(.cx k a b)) /\
 (∀(l:List UInt8),cK ids keep (.str l)=(.str l)) /\
 (∀(x:Value),cK ids keep (.lit x)=(.lit x)) /\
 (cK ids keep AV.aj=AV.aj) /\
 (∀(sz0:Nat) (es0:List AV),cK ids keep (.ro sz0 es0)=(.ro sz0 es0)) /\
 (∀(x:AV),cK ids keep (.ao x)=(.ao x)) /\
 (∀(i o n:Nat),cK ids keep (.sl i o n)=cu (memN i ids) (.sl i o n)) /\
 (∀(i j f:Nat),cK ids keep (.ptr i j f)=cu (memN i ids) (.ptr i j f)) /\
 (∀(i f:Nat),cK ids keep (.aa i f)=jO (memN i keep) (.aa i f) (cu (memN i ids) (.aa i f))) /\
 (∀(cs:List AV),cK ids keep (.agg cs)=.agg (cs.map (bW ids keep))) /\
 (∀(cs:List AV),cK ids keep (.ab cs)=AV.undef) /\
 (∀(b:Bool) (x:AV),cK ids keep (.gd b x)=AV.undef) /\
 (∀(f:Nat) (cs:List AV),cK ids keep (.aB f cs)=.aB f (cs.map (bW ids keep))):=
 ⟨rfl,λ_=>rfl,λ_ _=>rfl,λ_ _=>rfl,λ_ _ _=>rfl,λ_=>rfl,λ_=>rfl,rfl,λ_ _=>rfl,λ_=>rfl,λ_ _ _=>kg,λ_ _ _=>kg,λ_ _=>(by rw[<-kg,<-wb];rfl),λ_=>rfl,λ_=>rfl,λ_ _=>rfl,λ_ _=>rfl⟩
theorem OL (ids keep:List Nat) :
 (kI ids keep AV.undef=AV.undef) /\
 (∀(b:Bool),kI ids keep (.bool b)=(.bool b)) /\
 (∀(k:IntKind) (n:Int),kI ids keep (.int k n)=(.int k n)) /\
 (∀(k:FloatKind) (n:Nat),kI ids keep (.fl k n)=(.fl k n)) /\
 (∀(k:FloatKind) (a b:Nat),kI ids keep (.cx k a b)=(.cx k a b)) /\
 (∀(l:List UInt8),kI ids keep (.str l)=(.str l)) /\
 (∀(x:Value),kI ids keep (.lit x)=(.lit x)) /\
 (kI ids keep AV.aj=AV.aj) /\
 (∀(sz0:Nat) (es0:List AV),kI ids keep (.ro sz0 es0)=(.ro sz0 es0)) /\
 (∀(x:AV),kI ids keep (.ao x)=(.ao x)) /\
 (∀(i o n:Nat),kI ids keep (.sl i o n)=cu (memN i ids) (.sl i o n)) /\
 (∀(i j f:Nat),kI ids keep (.ptr i j f)=cu (memN i ids) (.ptr i j f)) /\
 (∀(i f:Nat),kI ids keep (.aa i f)=jO (memN i keep) (.aa i f) (cu (memN i ids) (.aa i f))) /\
 (∀(cs:List AV),kI ids keep (.agg cs)=.agg (cs.map (bW ids keep))) /\
 (∀(cs:List AV),kI ids keep (.ab cs)=.ab (cs.map (cK ids keep))) /\
 (∀(b:Bool) (x:AV),kI ids keep (.gd b x)=.gd b (cK ids keep x)) /\
 (∀(f:Nat) (cs:List AV),kI ids keep (.aB f cs)=.aB f (cs.map (bW ids keep))):=
 ⟨rfl,λ_=>rfl,λ_ _=>rfl,λ_ _=>rfl,λ_ _ _=>rfl,λ_=>rfl,λ_=>rfl,rfl,λ_ _=>rfl,λ_=>rfl,λ_ _ _=>kg,λ_ _ _=>kg,λ_ _=>(by rw[<-kg,<-wb];rfl),λ_=>rfl,λ_=>rfl,λ_ _=>rfl,λ_ _=>rfl⟩
theorem H0 (h:HP) :
 (borrowC h AV.undef=AV.undef) /\
 (∀(b:Bool),borrowC h (.bool b)=(.bool b)) /\
 (∀(k:IntKind) (n:Int),borrowC h (.int k n)=(.int k n)) /\
 (∀(k:FloatKind) (n:Nat),borrowC h (.fl k n)=(.fl k n)) /\
 (∀(k:FloatKind) (a b:Nat),borrowC h (.cx k a b)=(.cx k a b)) /\
 (∀(l:List UInt8),borrowC h (.str l)=(.str l)) /\
 (∀(x:Value),borrowC h (.lit x)=(.lit x)) /\
 (borrowC h AV.aj=AV.aj) /\
 (∀(sz0:Nat) (es0:List AV),borrowC h (.ro sz0 es0)=(.ro sz0 es0)) /\
 (∀(x:AV),borrowC h (.ao x)=(.ao x)) /\
 (∀(i o n:Nat),borrowC h (.sl i o n)=borSl (hget h i) o n) /\
 (∀(i j f:Nat),borrowC h (.ptr i j f)=AV.undef) /\
 (∀(i f:Nat),borrowC h (.aa i f)=AV.undef) /\
 (∀(cs:List AV),borrowC h (.agg cs)=AV.undef) /\
 (∀(cs:List AV),borrowC h (.ab cs)=AV.undef) /\
 (∀(b:Bool) (x:AV),borrowC h (.gd b x)=AV.undef) /\
 (∀(f:Nat) (cs:List AV),borrowC h (.aB f cs)=AV.undef):=
 ⟨rfl,λ_=>rfl,λ_ _=>rfl,λ_ _=>rfl,λ_ _ _=>rfl,λ_=>rfl,λ_=>rfl,rfl,λ_ _=>rfl,λ_=>rfl,λ_ _ _=>(by simp only[borrowC,borSl];split<;>simp_all),λ_ _ _=>rfl,λ_ _=>rfl,λ_=>rfl,λ_=>rfl,λ_ _=>rfl,λ_ _=>rfl⟩
theorem H2 (h:HP) :
 (borrow h AV.undef=AV.undef) /\
 (∀(b:Bool),borrow h (.bool b)=(.bool b)) /\
 (∀(k:IntKind) (n:Int),borrow h (.int k n)=(.int k n)) /\
 (∀(k:FloatKind) (n:Nat),borrow h (.fl k n)=(.fl k n)) /\
 (∀(k:FloatKind) (a b:Nat),borrow h (.cx k a b)=(.cx k a b)) /\
 (∀(l:List UInt8),borrow h (.str l)=(.str l)) /\
 (∀(x:Value),borrow h (.lit x)=(.lit x)) /\
 (borrow h AV.aj=AV.aj) /\
 (∀(sz0:Nat) (es0:List AV),borrow h (.ro sz0 es0)=(.ro sz0 es0)) /\
 (∀(x:AV),borrow h (.ao x)=(.ao x)) /\
 (∀(i o n:Nat),borrow h (.sl i o n)=borSl (hget h i) o n) /\
 (∀(i j f:Nat),borrow h (.ptr i j f)=AV.undef) /\
 (∀(i f:Nat),borrow h (.aa i f)=AV.undef) /\
 (∀(cs:List AV),borrow h (.agg cs)=.agg (cs.map (borrowC h))) /\
 (∀(cs:List AV),borrow h (.ab cs)=AV.undef) /\
 (∀(b:Bool) (x:AV),borrow h (.gd b x)=AV.undef) /\
 (∀(f:Nat) (cs:List AV),borrow h (.aB f cs)=AV.undef):=
 ⟨rfl,λ_=>rfl,λ_ _=>rfl,λ_ _=>rfl,λ_ _ _=>rfl,λ_=>rfl,λ_=>rfl,rfl,λ_ _=>rfl,λ_=>rfl,λ_ _ _=>(by simp only[borrow,borrowC,borSl];split<;>simp_all),λ_ _ _=>rfl,λ_ _=>rfl,λ_=>rfl,λ_=>rfl,λ_ _=>rfl,λ_ _=>rfl⟩
theorem Hn (h0 h:HP) :
 (bcell h0 h AV.undef=AV.undef) /\
 (∀(b:Bool),bcell h0 h (.bool b)=(.bool b)) /\
 (∀(k:IntKind) (n:Int),bcell h0 h (.int k n)=(.int k n)) /\
 (∀(k:FloatKind) (n:Nat),bcell h0 h (.fl k n)=(.fl k n)) /\
 (∀(k:FloatKind) (a b:Nat),bcell h0 h (.cx k a b)=(.cx k a b)) /\
 (∀(l:List UInt8),bcell h0 h (.str l)=(.str l)) /\
 (∀(x:Value),bcell h0 h (.lit x)=(.lit x)) /\
 (bcell h0 h AV.aj=AV.aj) /\
 (∀(sz0:Nat) (es0:List AV),bcell h0 h (.ro sz0 es0)=(.ro sz0 es0)) /\
 (∀(x:AV),bcell h0 h (.ao x)=(.ao x)) /\
 (∀(i o n:Nat),bcell h0 h (.sl i o n)=keepO (hget h0 i) AV.undef (borSl (hget h i) o n)) /\
 (∀(i j f:Nat),bcell h0 h (.ptr i j f)=AV.undef) /\
 (∀(i f:Nat),bcell h0 h (.aa i f)=AV.undef) /\
 (∀(cs:List AV),bcell h0 h (.agg cs)=AV.undef) /\
 (∀(cs:List AV),bcell h0 h (.ab cs)=AV.undef) /\
 (∀(b:Bool) (x:AV),bcell h0 h (.gd b x)=AV.undef) /\
 (∀(f:Nat) (cs:List AV),bcell h0 h (.aB f cs)=AV.undef):=
 ⟨rfl,λ_=>rfl,λ_ _=>rfl,λ_ _=>rfl,λ_ _ _=>rfl,λ_=>rfl,λ_=>rfl,rfl,λ_ _=>rfl,λ_=>rfl,λ_ _ _=>(by simp only[bcell,borrowC,borSl,keepO];split<;>(try split)<;>simp_all),λ_ _ _=>rfl,λ_ _=>rfl,λ_=>rfl,λ_=>rfl,λ_ _=>rfl,λ_ _=>rfl⟩
theorem HT (h0 h:HP) :
 (borC h0 h AV.undef=AV.undef) /\
 (∀(b:Bool),borC h0 h (.bool b)=(.bool b)) /\
 (∀(k:IntKind) (n:Int),borC h0 h (.int k n)=(.int k n)) /\
 (∀(k:FloatKind) (n:Nat),borC h0 h (.fl k n)=(.fl k n)) /\
 (∀(k:FloatKind) (a b:Nat),borC h0 h (.cx k a b)=(.cx k a b)) /\
 (∀(l:List UInt8),borC h0 h (.str l)=(.str l)) /\
 (∀(x:Value),borC h0 h (.lit x)=(.lit x)) /\
 (borC h0 h AV.aj=AV.aj) /\
 (∀(sz0:Nat) (es0:List AV),borC h0 h (.ro sz0 es0)=(.ro sz0 es0)) /\
 (∀(x:AV),borC h0 h (.ao x)=(.ao x)) /\
 (∀(i o n:Nat),borC h0 h (.sl i o n)=keepO (hget h0 i) (.sl i o n) (borSl (hget h i) o n)) /\
 (∀(i j f:Nat),borC h0 h (.ptr i j f)=keepO (hget h0 i) (.ptr i j f) AV.undef) /\
 (∀(i f:Nat),borC h0 h (.aa i f)=keepO (hget h0 i) (.aa i f) (borV h0 h (hget h i) f)) /\
 (∀(cs:List AV),borC h0 h (.agg cs)=AV.undef) /\
 (∀(cs:List AV),borC h0 h (.ab cs)=AV.undef) /\
 (∀(b:Bool) (x:AV),borC h0 h (.gd b x)=AV.undef) /\
 (∀(f:Nat) (cs:List AV),borC h0 h (.aB f cs)=AV.undef):=
 ⟨rfl,λ_=>rfl,λ_ _=>rfl,λ_ _=>rfl,λ_ _ _=>rfl,λ_=>rfl,λ_=>rfl,rfl,λ_ _=>rfl,λ_=>rfl,λ_ _ _=>(by simp only[borC,borrowC,borSl,keepO];split<;>(try split)<;>simp_all),λ_ _ _=>(by simp only[borC,keepO];rfl),λ_ _=>(by simp only[borC,borV,keepO];rfl),λ_=>rfl,λ_=>rfl,λ_ _=>rfl,λ_ _=>rfl⟩
theorem HY (h0 h:HP) :
 (bor h0 h AV.undef=AV.undef) /\
 (∀(b:Bool),bor h0 h (.bool b)=(.bool b)) /\
 (∀(k:IntKind) (n:Int),bor h0 h (.int k n)=(.int k n)) /\
 (∀(k:FloatKind) (n:Nat),bor h0 h (.fl k n)=(.fl k n)) /\
 (∀(k:FloatKind) (a b:Nat),bor h0 h (.cx k a b)=(.cx k a b)) /\
 (∀(l:List UInt8),bor h0 h (.str l)=(.str l)) /\
 (∀(x:Value),bor h0 h (.lit x)=(.lit x)) /\
 (bor h0 h AV.aj=AV.aj) /\
 (∀(sz0:Nat) (es0:List AV),bor h0 h (.ro sz0 es0)=(.ro sz0 es0)) /\
 (∀(x:AV),bor h0 h (.ao x)=(.ao x)) /\
 (∀(i o n:Nat),bor h0 h (.sl i o n)=keepO (hget h0 i) (.sl i o n) (borSl (hget h i) o n)) /\
 (∀(i j f:Nat),bor h0 h (.ptr i j f)=keepO (hget h0 i) (.ptr i j f) AV.undef) /\
 (∀(i f:Nat),bor h0 h (.aa i f)=keepO (hget h0 i) (.aa i f) (borV h0 h (hget h i) f)) /\
 (∀(cs:List AV),bor h0 h (.agg cs)=.agg (cs.map (borC h0 h))) /\
 (∀(cs:List AV),bor h0 h (.ab cs)=AV.undef) /\
 (∀(b:Bool) (x:AV),bor h0 h (.gd b x)=AV.undef) /\
 (∀(f:Nat) (cs:List AV),bor h0 h (.aB f cs)=AV.undef):=
 ⟨rfl,λ_=>rfl,λ_ _=>rfl,λ_ _=>rfl,λ_ _ _=>rfl,λ_=>rfl,λ_=>rfl,rfl,λ_ _=>rfl,λ_=>rfl,λ_ _ _=>(by simp only[bor,borC,borrowC,borSl,keepO];split<;>(try split)<;>simp_all),λ_ _ _=>(by simp only[bor,borC,keepO];rfl),λ_ _=>(by simp only[bor,borC,borV,keepO];rfl),λ_=>rfl,λ_=>rfl,λ_ _=>rfl,λ_ _=>rfl⟩
theorem RO :
 (noRefC  AV.undef=true) /\
 (∀(b:Bool),noRefC  (.bool b)=true) /\
 (∀(k:IntKind) (n:Int),noRefC  (.int k n)=true) /\
 (∀(k:FloatKind) (n:Nat),noRefC  (.fl k n)=true) /\
 (∀(k:FloatKind) (a b:Nat),noRefC  (.cx k a b)=true) /\
 (∀(l:List UInt8),noRefC  (.str l)=true) /\
 (∀(x:Value),noRefC  (.lit x)=true) /\
 (noRefC  AV.aj=true) /\
 (∀(sz0:Nat) (es0:List AV),noRefC  (.ro sz0 es0)=true) /\
 (∀(x:AV),noRefC  (.ao x)=true) /\
 (∀(i o n:Nat),noRefC  (.sl i o n)=false) /\
 (∀(i j f:Nat),noRefC  (.ptr i j f)=false) /\
 (∀(i f:Nat),noRefC  (.aa i f)=false) /\
 (∀(cs:List AV),noRefC  (.agg cs)=false) /\
 (∀(cs:List AV),noRefC  (.ab cs)=false) /\
 (∀(b:Bool) (x:AV),noRefC  (.gd b x)=false) /\
 (∀(f:Nat) (cs:List AV),noRefC  (.aB f cs)=false):=
 ⟨rfl,λ_=>rfl,λ_ _=>rfl,λ_ _=>rfl,λ_ _ _=>rfl,λ_=>rfl,λ_=>rfl,rfl,λ_ _=>rfl,λ_=>rfl,λ_ _ _=>rfl,λ_ _ _=>rfl,λ_ _=>rfl,λ_=>rfl,λ_=>rfl,λ_ _=>rfl,λ_ _=>rfl⟩
theorem Lu :
 (flC  AV.undef=true) /\
 (∀(b:Bool),flC  (.bool b)=true) /\
 (∀(k:IntKind) (n:Int),flC  (.int k n)=true) /\
 (∀(k:FloatKind) (n:Nat),flC  (.fl k n)=true) /\
 (∀(k:FloatKind) (a b:Nat),flC  (.cx k a b)=true) /\
 (∀(l:List UInt8),flC  (.str l)=true) /\
 (∀(x:Value),flC  (.lit x)=true) /\
 (flC  AV.aj=true) /\
 (∀(sz0:Nat) (es0:List AV),flC  (.ro sz0 es0)=false) /\
 (∀(x:AV),flC  (.ao x)=false) /\
 (∀(i o n:Nat),flC  (.sl i o n)=false) /\
 (∀(i j f:Nat),flC  (.ptr i j f)=false) /\
 (∀(i f:Nat),flC  (.aa i f)=false) /\
 (∀(cs:List AV),flC  (.agg cs)=false) /\
 (∀(cs:List AV),flC  (.ab cs)=false) /\
 (∀(b:Bool) (x:AV),flC  (.gd b x)=false) /\
 (∀(f:Nat) (cs:List AV),flC  (.aB f cs)=false):=
 ⟨rfl,λ_=>rfl,λ_ _=>rfl,λ_ _=>rfl,λ_ _ _=>rfl,λ_=>rfl,λ_=>rfl,rfl,λ_ _=>rfl,λ_=>rfl,λ_ _ _=>rfl,λ_ _ _=>rfl,λ_ _=>rfl,λ_=>rfl,λ_=>rfl,λ_ _=>rfl,λ_ _=>rfl⟩
theorem Om :
 (isCell  AV.undef=false) /\
 (∀(b:Bool),isCell  (.bool b)=true) /\
 (∀(k:IntKind) (n:Int),isCell  (.int k n)=true) /\
 (∀(k:FloatKind) (n:Nat),isCell  (.fl k n)=true) /\
 (∀(k:FloatKind) (a b:Nat),isCell  (.cx k a b)=true) /\
 (∀(l:List UInt8),isCell  (.str l)=true) /\
 (∀(x:Value),isCell  (.lit x)=x.oneCell') /\
 (isCell  AV.aj=true) /\
 (∀(sz0:Nat) (es0:List AV),isCell  (.ro sz0 es0)=true) /\
 (∀(x:AV),isCell  (.ao x)=true) /\
 (∀(i o n:Nat),isCell  (.sl i o n)=true) /\
 (∀(i j f:Nat),isCell  (.ptr i j f)=true) /\
 (∀(i f:Nat),isCell  (.aa i f)=true) /\
 (∀(cs:List AV),isCell  (.agg cs)=false) /\
 (∀(cs:List AV),isCell  (.ab cs)=false) /\
 (∀(b:Bool) (x:AV),isCell  (.gd b x)=false) /\
 (∀(f:Nat) (cs:List AV),isCell  (.aB f cs)=false):=
 ⟨rfl,λ_=>rfl,λ_ _=>rfl,λ_ _=>rfl,λ_ _ _=>rfl,λ_=>rfl,λ_=>rfl,rfl,λ_ _=>rfl,λ_=>rfl,λ_ _ _=>rfl,λ_ _ _=>rfl,λ_ _=>rfl,λ_=>rfl,λ_=>rfl,λ_ _=>rfl,λ_ _=>rfl⟩
theorem RU :
 (bx  AV.undef=true) /\
 (∀(b:Bool),bx  (.bool b)=true) /\
 (∀(k:IntKind) (n:Int),bx  (.int k n)=true) /\
 (∀(k:FloatKind) (n:Nat),bx  (.fl k n)=true) /\
 (∀(k:FloatKind) (a b:Nat),bx  (.cx k a b)=true) /\
 (∀(l:List UInt8),bx  (.str l)=true) /\
 (∀(x:Value),bx  (.lit x)=true) /\
 (bx  AV.aj=true) /\
 (∀(sz0:Nat) (es0:List AV),bx  (.ro sz0 es0)=true) /\
 (∀(x:AV),bx  (.ao x)=true) /\
 (∀(i o n:Nat),bx  (.sl i o n)=false) /\
 (∀(i j f:Nat),bx  (.ptr i j f)=false) /\
 (∀(i f:Nat),bx  (.aa i f)=false) /\
 (∀(cs:List AV),bx  (.agg cs)=cs.all noRefC) /\
 (∀(cs:List AV),bx  (.ab cs)=false) /\
 (∀(b:Bool) (x:AV),bx  (.gd b x)=false) /\
 (∀(f:Nat) (cs:List AV),bx  (.aB f cs)=false):=
 ⟨rfl,λ_=>rfl,λ_ _=>rfl,λ_ _=>rfl,λ_ _ _=>rfl,λ_=>rfl,λ_=>rfl,rfl,λ_ _=>rfl,λ_=>rfl,λ_ _ _=>rfl,λ_ _ _=>rfl,λ_ _=>rfl,λ_=>rfl,λ_=>rfl,λ_ _=>rfl,λ_ _=>rfl⟩
theorem RQ :
 (dK  AV.undef=true) /\
 (∀(b:Bool),dK  (.bool b)=true) /\
 (∀(k:IntKind) (n:Int),dK  (.int k n)=true) /\
 (∀(k:FloatKind) (n:Nat),dK  (.fl k n)=true) /\
 (∀(k:FloatKind) (a b:Nat),dK  (.cx k a b)=true) /\
 (∀(l:List UInt8),dK  (.str l)=true) /\
 (∀(x:Value),dK  (.lit x)=true) /\
 (dK  AV.aj=true) /\
 (∀(sz0:Nat) (es0:List AV),dK  (.ro sz0 es0)=true) /\
 (∀(x:AV),dK  (.ao x)=true) /\
 (∀(i o n:Nat),dK  (.sl i o n)=false) /\
 (∀(i j f:Nat),dK  (.ptr i j f)=false) /\
 (∀(i f:Nat),dK  (.aa i f)=false) /\
 (∀(cs:List AV),dK  (.agg cs)=cs.all noRefC) /\
 (∀(cs:List AV),dK  (.ab cs)=cs.all bx) /\
 (∀(b:Bool) (x:AV),dK  (.gd b x)=false) /\
 (∀(f:Nat) (cs:List AV),dK  (.aB f cs)=false):=
 ⟨rfl,λ_=>rfl,λ_ _=>rfl,λ_ _=>rfl,λ_ _ _=>rfl,λ_=>rfl,λ_=>rfl,rfl,λ_ _=>rfl,λ_=>rfl,λ_ _ _=>rfl,λ_ _ _=>rfl,λ_ _=>rfl,λ_=>rfl,λ_=>rfl,λ_ _=>rfl,λ_ _=>rfl⟩
theorem Lr :
 (flA  AV.undef=true) /\
 (∀(b:Bool),flA  (.bool b)=true) /\
 (∀(k:IntKind) (n:Int),flA  (.int k n)=true) /\
 (∀(k:FloatKind) (n:Nat),flA  (.fl k n)=true) /\
 (∀(k:FloatKind) (a b:Nat),flA  (.cx k a b)=true) /\
 (∀(l:List UInt8),flA  (.str l)=true) /\
 (∀(x:Value),flA  (.lit x)=true) /\
 (flA  AV.aj=true) /\
 (∀(sz0:Nat) (es0:List AV),flA  (.ro sz0 es0)=false) /\
 (∀(x:AV),flA  (.ao x)=false) /\
 (∀(i o n:Nat),flA  (.sl i o n)=false) /\
 (∀(i j f:Nat),flA  (.ptr i j f)=false) /\
 (∀(i f:Nat),flA  (.aa i f)=false) /\
 (∀(cs:List AV),flA  (.agg cs)=cs.all flC) /\
 (∀(cs:List AV),flA  (.ab cs)=false) /\
 (∀(b:Bool) (x:AV),flA  (.gd b x)=false) /\
 (∀(f:Nat) (cs:List AV),flA  (.aB f cs)=false):=
 ⟨rfl,λ_=>rfl,λ_ _=>rfl,λ_ _=>rfl,λ_ _ _=>rfl,λ_=>rfl,λ_=>rfl,rfl,λ_ _=>rfl,λ_=>rfl,λ_ _ _=>rfl,λ_ _ _=>rfl,λ_ _=>rfl,λ_=>rfl,λ_=>rfl,λ_ _=>rfl,λ_ _=>rfl⟩
theorem LA :
 (dI  AV.undef=true) /\
 (∀(b:Bool),dI  (.bool b)=true) /\
 (∀(k:IntKind) (n:Int),dI  (.int k n)=true) /\
 (∀(k:FloatKind) (n:Nat),dI  (.fl k n)=true) /\
 (∀(k:FloatKind) (a b:Nat),dI  (.cx k a b)=true) /\
 (∀(l:List UInt8),dI  (.str l)=true) /\
 (∀(x:Value),dI  (.lit x)=true) /\
 (dI  AV.aj=true) /\
 (∀(sz0:Nat) (es0:List AV),dI  (.ro sz0 es0)=false) /\
 (∀(x:AV),dI  (.ao x)=false) /\
 (∀(i o n:Nat),dI  (.sl i o n)=false) /\
 (∀(i j f:Nat),dI  (.ptr i j f)=false) /\
 (∀(i f:Nat),dI  (.aa i f)=false) /\
 (∀(cs:List AV),dI  (.agg cs)=cs.all flC) /\
 (∀(cs:List AV),dI  (.ab cs)=cs.all flA) /\
 (∀(b:Bool) (x:AV),dI  (.gd b x)=false) /\
 (∀(f:Nat) (cs:List AV),dI  (.aB f cs)=false):=
 ⟨rfl,λ_=>rfl,λ_ _=>rfl,λ_ _=>rfl,λ_ _ _=>rfl,λ_=>rfl,λ_=>rfl,rfl,λ_ _=>rfl,λ_=>rfl,λ_ _ _=>rfl,λ_ _ _=>rfl,λ_ _=>rfl,λ_=>rfl,λ_=>rfl,λ_ _=>rfl,λ_ _=>rfl⟩
theorem LY (h:HP) :
 (cv h AV.undef=true) /\
 (∀(b:Bool),cv h (.bool b)=true) /\
 (∀(k:IntKind) (n:Int),cv h (.int k n)=true) /\
 (∀(k:FloatKind) (n:Nat),cv h (.fl k n)=true) /\
 (∀(k:FloatKind) (a b:Nat),cv h (.cx k a b)=true) /\
 (∀(l:List UInt8),cv h (.str l)=true) /\
 (∀(x:Value),cv h (.lit x)=true) /\
 (cv h AV.aj=true) /\
 (∀(sz0:Nat) (es0:List AV),cv h (.ro sz0 es0)=false) /\
 (∀(x:AV),cv h (.ao x)=false) /\
 (∀(i o n:Nat),cv h (.sl i o n)=(hget h i).isSome) /\
 (∀(i j f:Nat),cv h (.ptr i j f)=(hget h i).isSome) /\
 (∀(i f:Nat),cv h (.aa i f)=(hget h i).isSome) /\
 (∀(cs:List AV),cv h (.agg cs)=false) /\
 (∀(cs:List AV),cv h (.ab cs)=false) /\
 (∀(b:Bool) (x:AV),cv h (.gd b x)=false) /\
 (∀(f:Nat) (cs:List AV),cv h (.aB f cs)=false):=
 ⟨rfl,λ_=>rfl,λ_ _=>rfl,λ_ _=>rfl,λ_ _ _=>rfl,λ_=>rfl,λ_=>rfl,rfl,λ_ _=>rfl,λ_=>rfl,λ_ _ _=>rfl,λ_ _ _=>rfl,λ_ _=>rfl,λ_=>rfl,λ_=>rfl,λ_ _=>rfl,λ_ _=>rfl⟩
theorem LX (h:HP) :
 (c8 h AV.undef=true) /\
 (∀(b:Bool),c8 h (.bool b)=true) /\
 (∀(k:IntKind) (n:Int),c8 h (.int k n)=true) /\
 (∀(k:FloatKind) (n:Nat),c8 h (.fl k n)=true) /\
 (∀(k:FloatKind) (a b:Nat),c8 h (.cx k a b)=true) /\
 (∀(l:List UInt8),c8 h (.str l)=true) /\
 (∀(x:Value),c8 h (.lit x)=true) /\
 (c8 h AV.aj=true) /\
 (∀(sz0:Nat) (es0:List AV),c8 h (.ro sz0 es0)=false) /\
 (∀(x:AV),c8 h (.ao x)=false) /\
 (∀(i o n:Nat),c8 h (.sl i o n)=(hget h i).isSome) /\
 (∀(i j f:Nat),c8 h (.ptr i j f)=(hget h i).isSome) /\
 (∀(i f:Nat),c8 h (.aa i f)=(hget h i).isSome) /\
 (∀(cs:List AV),c8 h (.agg cs)=cs.all (cv h)) /\
 (∀(cs:List AV),c8 h (.ab cs)=false) /\
 (∀(b:Bool) (x:AV),c8 h (.gd b x)=false) /\
 (∀(f:Nat) (cs:List AV),c8 h (.aB f cs)=false):=
 ⟨rfl,λ_=>rfl,λ_ _=>rfl,λ_ _=>rfl,λ_ _ _=>rfl,λ_=>rfl,λ_=>rfl,rfl,λ_ _=>rfl,λ_=>rfl,λ_ _ _=>rfl,λ_ _ _=>rfl,λ_ _=>rfl,λ_=>rfl,λ_=>rfl,λ_ _=>rfl,λ_ _=>rfl⟩
theorem Lw (h:HP) :
 (ed h AV.undef=true) /\
 (∀(b:Bool),ed h (.bool b)=true) /\
 (∀(k:IntKind) (n:Int),ed h (.int k n)=true) /\
 (∀(k:FloatKind) (n:Nat),ed h (.fl k n)=true) /\
 (∀(k:FloatKind) (a b:Nat),ed h (.cx k a b)=true) /\
 (∀(l:List UInt8),ed h (.str l)=true) /\
 (∀(x:Value),ed h (.lit x)=true) /\
 (ed h AV.aj=true) /\
 (∀(sz0:Nat) (es0:List AV),ed h (.ro sz0 es0)=false) /\
 (∀(x:AV),ed h (.ao x)=false) /\
 (∀(i o n:Nat),ed h (.sl i o n)=(hget h i).isSome) /\
 (∀(i j f:Nat),ed h (.ptr i j f)=(hget h i).isSome) /\
 (∀(i f:Nat),ed h (.aa i f)=(hget h i).isSome) /\
 (∀(cs:List AV),ed h (.agg cs)=cs.all (cv h)) /\
 (∀(cs:List AV),ed h (.ab cs)=cs.all (c8 h)) /\
 (∀(b:Bool) (x:AV),ed h (.gd b x)=false) /\
 (∀(f:Nat) (cs:List AV),ed h (.aB f cs)=false):=
 ⟨rfl,λ_=>rfl,λ_ _=>rfl,λ_ _=>rfl,λ_ _ _=>rfl,λ_=>rfl,λ_=>rfl,rfl,λ_ _=>rfl,λ_=>rfl,λ_ _ _=>rfl,λ_ _ _=>rfl,λ_ _=>rfl,λ_=>rfl,λ_=>rfl,λ_ _=>rfl,λ_ _=>rfl⟩
theorem NS (h:HP) :
 (cy h AV.undef=true) /\
 (∀(b:Bool),cy h (.bool b)=true) /\
 (∀(k:IntKind) (n:Int),cy h (.int k n)=true) /\
 (∀(k:FloatKind) (n:Nat),cy h (.fl k n)=true) /\
 (∀(k:FloatKind) (a b:Nat),cy h (.cx k a b)=true) /\
 (∀(l:List UInt8),cy h (.str l)=true) /\
 (∀(x:Value),cy h (.lit x)=true) /\
 (cy h AV.aj=true) /\
 (∀(sz0:Nat) (es0:List AV),cy h (.ro sz0 es0)=true) /\
 (∀(x:AV),cy h (.ao x)=true) /\
 (∀(i o n:Nat),cy h (.sl i o n)=(hget h i).isSome) /\
 (∀(i j f:Nat),cy h (.ptr i j f)=(hget h i).isSome) /\
 (∀(i f:Nat),cy h (.aa i f)=(hget h i).isSome) /\
 (∀(cs:List AV),cy h (.agg cs)=false) /\
 (∀(cs:List AV),cy h (.ab cs)=false) /\
 (∀(b:Bool) (x:AV),cy h (.gd b x)=false) /\
 (∀(f:Nat) (cs:List AV),cy h (.aB f cs)=false):=
 ⟨rfl,λ_=>rfl,λ_ _=>rfl,λ_ _=>rfl,λ_ _ _=>rfl,λ_=>rfl,λ_=>rfl,rfl,λ_ _=>rfl,λ_=>rfl,λ_ _ _=>rfl,λ_ _ _=>rfl,λ_ _=>rfl,λ_=>rfl,λ_=>rfl,λ_ _=>rfl,λ_ _=>rfl⟩
theorem NR (h:HP) :
 (de h AV.undef=true) /\
 (∀(b:Bool),de h (.bool b)=true) /\
 (∀(k:IntKind) (n:Int),de h (.int k n)=true) /\
 (∀(k:FloatKind) (n:Nat),de h (.fl k n)=true) /\
 (∀(k:FloatKind) (a b:Nat),de h (.cx k a b)=true) /\
 (∀(l:List UInt8),de h (.str l)=true) /\
 (∀(x:Value),de h (.lit x)=true) /\
 (de h AV.aj=true) /\
 (∀(sz0:Nat) (es0:List AV),de h (.ro sz0 es0)=true) /\
 (∀(x:AV),de h (.ao x)=true) /\
 (∀(i o n:Nat),de h (.sl i o n)=(hget h i).isSome) /\
 (∀(i j f:Nat),de h (.ptr i j f)=(hget h i).isSome) /\
 (∀(i f:Nat),de h (.aa i f)=(hget h i).isSome) /\
 (∀(cs:List AV),de h (.agg cs)=cs.all (cy h)) /\
 (∀(cs:List AV),de h (.ab cs)=false) /\
 (∀(b:Bool) (x:AV),de h (.gd b x)=false) /\
 (∀(f:Nat) (cs:List AV),de h (.aB f cs)=false):=
 ⟨rfl,λ_=>rfl,λ_ _=>rfl,λ_ _=>rfl,λ_ _ _=>rfl,λ_=>rfl,λ_=>rfl,rfl,λ_ _=>rfl,λ_=>rfl,λ_ _ _=>rfl,λ_ _ _=>rfl,λ_ _=>rfl,λ_=>rfl,λ_=>rfl,λ_ _=>rfl,λ_ _=>rfl⟩
theorem NU (h:HP) :
 (dq h AV.undef=true) /\
 (∀(b:Bool),dq h (.bool b)=true) /\
 (∀(k:IntKind) (n:Int),dq h (.int k n)=true) /\
 (∀(k:FloatKind) (n:Nat),dq h (.fl k n)=true) /\
 (∀(k:FloatKind) (a b:Nat),dq h (.cx k a b)=true) /\
 (∀(l:List UInt8),dq h (.str l)=true) /\
 (∀(x:Value),dq h (.lit x)=true) /\
 (dq h AV.aj=true) /\
 (∀(sz0:Nat) (es0:List AV),dq h (.ro sz0 es0)=true) /\
 (∀(x:AV),dq h (.ao x)=true) /\
 (∀(i o n:Nat),dq h (.sl i o n)=(hget h i).isSome) /\
 (∀(i j f:Nat),dq h (.ptr i j f)=(hget h i).isSome) /\
 (∀(i f:Nat),dq h (.aa i f)=(hget h i).isSome) /\
 (∀(cs:List AV),dq h (.agg cs)=cs.all (cy h)) /\
 (∀(cs:List AV),dq h (.ab cs)=cs.all (de h)) /\
 (∀(b:Bool) (x:AV),dq h (.gd b x)=false) /\
 (∀(f:Nat) (cs:List AV),dq h (.aB f cs)=false):=
 ⟨rfl,λ_=>rfl,λ_ _=>rfl,λ_ _=>rfl,λ_ _ _=>rfl,λ_=>rfl,λ_=>rfl,rfl,λ_ _=>rfl,λ_=>rfl,λ_ _ _=>rfl,λ_ _ _=>rfl,λ_ _=>rfl,λ_=>rfl,λ_=>rfl,λ_ _=>rfl,λ_ _=>rfl⟩
theorem Xl :
 (stripV  AV.undef=AV.undef) /\
 (∀(b:Bool),stripV  (.bool b)=(.bool b)) /\
 (∀(k:IntKind) (n:Int),stripV  (.int k n)=(.int k n)) /\
 (∀(k:FloatKind) (n:Nat),stripV  (.fl k n)=(.fl k n)) /\
 (∀(k:FloatKind) (a b:Nat),stripV  (.cx k a b)=(.cx k a b)) /\
 (∀(l:List UInt8),stripV  (.str l)=(.str l)) /\
 (∀(x:Value),stripV  (.lit x)=(.lit x)) /\
 (stripV  AV.aj=AV.aj) /\
 (∀(sz0:Nat) (es0:List AV),stripV  (.ro sz0 es0)=(.ro sz0 es0)) /\
 (∀(x:AV),stripV  (.ao x)=(.ao x)) /\
 (∀(i o n:Nat),stripV  (.sl i o n)=(.sl i o n)) /\
 (∀(i j f:Nat),stripV  (.ptr i j f)=(.ptr i j f)) /\
 (∀(i f:Nat),stripV  (.aa i f)=(.aa i f)) /\
 (∀(cs:List AV),stripV  (.agg cs)=(.agg cs)) /\
 (∀(cs:List AV),stripV  (.ab cs)=(.ab cs)) /\
 (∀(b:Bool) (x:AV),stripV  (.gd b x)=x) /\
 (∀(f:Nat) (cs:List AV),stripV  (.aB f cs)=.aB f cs):=
 ⟨rfl,λ_=>rfl,λ_ _=>rfl,λ_ _=>rfl,λ_ _ _=>rfl,λ_=>rfl,λ_=>rfl,rfl,λ_ _=>rfl,λ_=>rfl,λ_ _ _=>rfl,λ_ _ _=>rfl,λ_ _=>rfl,λ_=>rfl,λ_=>rfl,λ_ _=>rfl,λ_ _=>rfl⟩
theorem Xk (γ:Bool) :
 (aq γ AV.undef=True) /\
 (∀(b:Bool),aq γ (.bool b)=True) /\
 (∀(k:IntKind) (n:Int),aq γ (.int k n)=True) /\
 (∀(k:FloatKind) (n:Nat),aq γ (.fl k n)=True) /\
 (∀(k:FloatKind) (a b:Nat),aq γ (.cx k a b)=True) /\
 (∀(l:List UInt8),aq γ (.str l)=True) /\
 (∀(x:Value),aq γ (.lit x)=True) /\
 (aq γ AV.aj=True) /\
 (∀(sz0:Nat) (es0:List AV),aq γ (.ro sz0 es0)=True) /\
 (∀(x:AV),aq γ (.ao x)=True) /\
 (∀(i o n:Nat),aq γ (.sl i o n)=True) /\
 (∀(i j f:Nat),aq γ (.ptr i j f)=True) /\
 (∀(i f:Nat),aq γ (.aa i f)=True) /\
 (∀(cs:List AV),aq γ (.agg cs)=True) /\
 (∀(cs:List AV),aq γ (.ab cs)=True) /\
 (∀(b:Bool) (x:AV),aq γ (.gd b x)=(γ=true->b=true)) /\
 (∀(f:Nat) (cs:List AV),aq γ (.aB f cs)=True):=
 ⟨rfl,λ_=>rfl,λ_ _=>rfl,λ_ _=>rfl,λ_ _ _=>rfl,λ_=>rfl,λ_=>rfl,rfl,λ_ _=>rfl,λ_=>rfl,λ_ _ _=>rfl,λ_ _ _=>rfl,λ_ _=>rfl,λ_=>rfl,λ_=>rfl,λ_ _=>rfl,λ_ _=>rfl⟩
theorem K7 (st:St):(∀k,ev st (.t k)=(sget st.s k).getD .undef)/\(∀v,ev st (.c v)=v):=⟨λ_=>rfl,λ_=>rfl⟩
theorem T4 (st:St) (v:AV):(∀d,put st (some d) v=⟨(d,v)::st.s,st.h⟩)/\put st none v=st:=⟨λ_=>rfl,rfl⟩
theorem My (w:Bool):(∀β,grd (some (.bool β)) w=some (β==w))/\(∀b β,grd (some (.gd b (.bool β))) w=some (b&&(β==w)))/\grd (some (.gd false .undef)) w=some false:=⟨λ_=>rfl,λb _=>by cases b<;>rfl,rfl⟩
theorem RG (st:St) (d:Nat) (W:aC):bG st d W=⟨killS d st.s,bn (fq d st.h) d W⟩:=(rfl)
theorem Pd (id:Nat):(∀sz es,kZ id (.arr sz es)=.arr sz es)/\(∀cs,kZ id (.var cs)=.var (cs.map (killC id)))/\(∀kd l,kZ id (.mp kd l)=.mp kd l):=⟨λ_ _=>rfl,λ_=>rfl,λ_ _=>rfl⟩
theorem Mf (id sz:Nat) (es:List AV):(∀sz' es',l3 id sz es (.arr sz' es')=.arr sz' es')/\(∀cs,l3 id sz es (.var cs)=.var (cs.map (bP id sz es)))/\(∀kd l,l3 id sz es (.mp kd l)=.mp kd l):=⟨λ_ _=>rfl,λ_=>rfl,λ_ _=>rfl⟩
theorem UD (id id':Nat):(∀sz es,lu id id' (.arr sz es)=.arr sz es)/\(∀cs,lu id id' (.var cs)=.var (cs.map λc=>bQ id id' (killC id' c)))/\(∀kd l,lu id id' (.mp kd l)=.mp kd l):=⟨λ_ _=>rfl,λ_=>rfl,λ_ _=>rfl⟩
theorem OM (ids keep:List Nat):(∀sz es,ki ids keep (.arr sz es)=.arr sz es)/\(∀cs,ki ids keep (.var cs)=.var (cs.map (bW ids keep)))/\(∀kd l,ki ids keep (.mp kd l)=.mp kd l):=⟨λ_ _=>rfl,λ_=>rfl,λ_ _=>rfl⟩
theorem NV (h:HP):(∀sz es,nD h (.arr sz es)=true)/\(∀cs,nD h (.var cs)=cs.all (cy h))/\(∀kd l,nD h (.mp kd l)=true):=⟨λ_ _=>rfl,λ_=>rfl,λ_ _=>rfl⟩
theorem LB (h:HP):(∀sz es,kW h (.arr sz es)=es.all flA)/\(∀cs,kW h (.var cs)=cs.all (cv h))/\(∀kd (l:List (MK×AV)),kW h (.mp kd l)=l.all λp=>flA p.2):=⟨λ_ _=>rfl,λ_=>rfl,λ_ _=>rfl⟩
theorem NT (h:HP):jb h []=true/\(∀k W r,jb h ((k,W)::r)=(nD h W&&jb h r)):=⟨rfl,λ_ _ _=>rfl⟩
theorem Lv (h:HP):flH h []=true/\(∀k W r,flH h ((k,W)::r)=(kW h W&&flH h r)):=⟨rfl,λ_ _ _=>rfl⟩
theorem Ry:dw []=[]/\(∀k W r,dw ((k,W)::r)=k::dw r):=⟨rfl,λ_ _ _=>rfl⟩
theorem Sj (k:Nat):numbered k []=[]/\(∀x r,numbered k (x::r)=(k,x)::numbered (k+1) r):=⟨rfl,λ_ _=>rfl⟩
theorem UC (id id':Nat):renS id id' []=[]/\(∀k v r,renS id id' ((k,v)::r)=(k,dA id id' (kill id' v))::renS id id' r):=⟨rfl,λ_ _ _=>rfl⟩
theorem UB (id id':Nat):renH id id' []=[]/\(∀k v r,renH id id' ((k,v)::r)=(rn id id' k,lu id id' v)::renH id id' r):=⟨rfl,λ_ _ _=>rfl⟩
theorem W6 (id id':Nat) (st:St):tt id id' st=⟨renS id id' st.s,renH id id' st.h⟩:=(rfl)
theorem WY (k id sz:Nat) (st:St):xU k id sz st=⟨(k,.sl id 0 0)::killS id st.s,bn (fq id st.h) id (.arr sz [])⟩:=(rfl)
theorem WX (p f id sz:Nat) (cs:List AV) (st:St):xV p f id sz cs st=⟨killS id st.s,bn (bn (fq id st.h) id (.arr sz [])) p (.var ((cs.map (killC id)).set f (.sl id 0 0)))⟩:=(rfl)
def l8 (b:Bool) (x y:Option (List AV)):Option (List AV):=match b with
 | true=>x
 | false=>y
def xN (W:Option aC) (sz o n:Nat):Option (List AV):=match W with
 | some (.arr sz' es)=>l8 (sz'==sz) (some (az es o n)) none
 | _=>none
theorem NH {x y:Option (List AV)}:l8 true x y=x:=(rfl)
theorem NG {x y:Option (List AV)}:l8 false x y=y:=(rfl)
theorem Wm {sz sz' o n:Nat} {es:List AV}:xN (some (.arr sz' es)) sz o n=l8 (sz'==sz) (some (az es o n)) none:=(rfl)
theorem vW {i j:Nat} {x y:Option (List AV)}:(if i=j then x else y)=l8 (i==j) x y:=by
 by_cases h:i=j
 ·subst h;rw[if_pos rfl,show(i==i)=true by simp];rfl
 ·rw[if_neg h,show(i==j)=false by simp[h]];rfl
theorem Wl (sz:Nat) (st:St):slE sz st .aj=some []/\(∀sz' es,slE sz st (.ro sz' es)=l8 (sz'==sz) (some es) none)/\(∀id o n,slE sz st (.sl id o n)=xN (hget st.h id) sz o n):=by
 refine⟨rfl,λsz' es=>?_,λid o n=>?_⟩
 ·rw[<-vW];rfl
 ·simp only[slE,xN];split
  ·rename_i e;rw[e];exact vW
  ·rename_i e;split
   ·rename_i e2;exact(e _ _ e2).elim
   rfl
def kB (b:Bool) (l:List Nat):List Nat:=match b with
 | true=>l
 | false=>[]
def keep1 (x a:AV):List Nat:=match x,a with
 | .aa p f,.aa p' f'=>kB (p==p'&&f==f') [p]
 | _,_=>[]
theorem OK (l:List Nat):kB true l=l/\kB false l=[]:=⟨rfl,rfl⟩
theorem OU (x a:AV) (xs as:List AV):keepL2 (x::xs) (a::as)=keep1 x a++keepL2 xs as:=by
 cases x<;>cases a<;>simp only[keepL2,keep1,aac]
 rename_i p f p' f';by_cases h1:p=p'
 ·by_cases h2:f=f'
  ·subst h1;subst h2;simp[kB]
  ·rw[if_pos h1,if_neg h2,show(p==p'&&f==f')=false by simp[h2]];rfl
 ·rw[if_neg h1,show(p==p'&&f==f')=false by simp[h1]];rfl
theorem OV (as:List AV):keepL2 [] as=[]:=by simp[keepL2]
theorem OW (xs:List AV):keepL2 xs []=[]:=by cases xs<;>simp[keepL2]
theorem OS:(∀(a:AV),keep1 AV.undef a=[]) /\
 (∀(b:Bool) (a:AV),keep1 (.bool b) a=[]) /\
 (∀(k:IntKind) (n:Int) (a:AV),keep1 (.int k n) a=[]) /\
 (∀(k:FloatKind) (n:Nat) (a:AV),keep1 (.fl k n) a=[]) /\
 (∀(k:FloatKind) (m n:Nat) (a:AV),keep1 (.cx k m n) a=[]) /\
 (∀(l:List UInt8) (a:AV),keep1 (.str l) a=[]) /\
 (∀(v:Value) (a:AV),keep1 (.lit v) a=[]) /\
 (∀(a:AV),keep1 AV.aj a=[]) /\
 (∀(sz:Nat) (es:List AV) (a:AV),keep1 (.ro sz es) a=[]) /\
 (∀(x:AV) (a:AV),keep1 (.ao x) a=[]) /\
 (∀(i o n:Nat) (a:AV),keep1 (.sl i o n) a=[]) /\
 (∀(i j f:Nat) (a:AV),keep1 (.ptr i j f) a=[]) /\
 (∀(cs:List AV) (a:AV),keep1 (.agg cs) a=[]) /\
 (∀(cs:List AV) (a:AV),keep1 (.ab cs) a=[]) /\
 (∀(b:Bool) (x:AV) (a:AV),keep1 (.gd b x) a=[]) /\
 (∀(p f:Nat),keep1 (.aa p f) AV.undef=[]) /\
 (∀(p f:Nat) (b:Bool),keep1 (.aa p f) (.bool b)=[]) /\
 (∀(p f:Nat) (k:IntKind) (n:Int),keep1 (.aa p f) (.int k n)=[]) /\
 (∀(p f:Nat) (k:FloatKind) (n:Nat),keep1 (.aa p f) (.fl k n)=[]) /\
 (∀(p f:Nat) (k:FloatKind) (m n:Nat),keep1 (.aa p f) (.cx k m n)=[]) /\
 (∀(p f:Nat) (l:List UInt8),keep1 (.aa p f) (.str l)=[]) /\
 (∀(p f:Nat) (v:Value),keep1 (.aa p f) (.lit v)=[]) /\
 (∀(p f:Nat),keep1 (.aa p f) AV.aj=[]) /\
 (∀(p f:Nat) (sz:Nat) (es:List AV),keep1 (.aa p f) (.ro sz es)=[]) /\
 (∀(p f:Nat) (x:AV),keep1 (.aa p f) (.ao x)=[]) /\
 (∀(p f:Nat) (i o n:Nat),keep1 (.aa p f) (.sl i o n)=[]) /\
 (∀(p f:Nat) (i j f:Nat),keep1 (.aa p f) (.ptr i j f)=[]) /\
 (∀(p f:Nat) (cs:List AV),keep1 (.aa p f) (.agg cs)=[]) /\
 (∀(p f:Nat) (cs:List AV),keep1 (.aa p f) (.ab cs)=[]) /\
 (∀(p f:Nat) (b:Bool) (x:AV),keep1 (.aa p f) (.gd b x)=[]) /\
 (∀(p f p' f':Nat),keep1 (.aa p f) (.aa p' f')=kB (p==p'&&f==f') [p]):=
 ⟨λ_=>rfl,λ_ _=>rfl,λ_ _ _=>rfl,λ_ _ _=>rfl,λ_ _ _ _=>rfl,λ_ _=>rfl,λ_ _=>rfl,λ_=>rfl,λ_ _ _=>rfl,λ_ _=>rfl,λ_ _ _ _=>rfl,λ_ _ _ _=>rfl,λ_ _=>rfl,λ_ _=>rfl,λ_ _ _=>rfl,λ_ _=>rfl,λ_ _ _=>rfl,λ_ _ _ _=>rfl,λ_ _ _ _=>rfl,λ_ _ _ _ _=>rfl,λ_ _ _=>rfl,λ_ _ _=>rfl,λ_ _=>rfl,λ_ _ _ _=>rfl,λ_ _ _=>rfl,λ_ _ _ _ _=>rfl,λ_ _ _ _ _=>rfl,λ_ _ _=>rfl,λ_ _ _=>rfl,λ_ _ _ _=>rfl,λ_ _ _ _=>rfl⟩
def oA (b:Bool) (l:List (Nat×AV)):List (Nat×AV):=match b with
 | true=>l
 | false=>[]
theorem G8 (l:List (Nat×AV)):oA true l=l/\oA false l=[]:=⟨rfl,rfl⟩
def back1 (s:List (Nat×AV)) (h:HP) (k:Nat) (a:AV):List (Nat×AV):=match a with
 | .sl i o n=>oA ((hget h i).isSome&&(sget s k).isSome) [(k,.sl i o n)]
 | _=>[]
theorem Hj (s:List (Nat×AV)) (h:HP) (k:Nat) (xs:List AE) (a:AV) (as:List AV):backS s h (.t k::xs) (a::as)=back1 s h k a++backS s h xs as:=by
 cases a<;>simp only[backS,back1,aac]
 rename_i i o n;cases h1:(hget h i).isSome<;>cases h2:(sget s k).isSome<;>simp[oA]
theorem Hg (s:List (Nat×AV)) (h:HP) (v:AV) (xs:List AE) (a:AV) (as:List AV):backS s h (.c v::xs) (a::as)=backS s h xs as:=by
 cases a<;>simp only[backS]
theorem Hi (s:List (Nat×AV)) (h:HP) (as:List AV):backS s h [] as=[]:=by simp[backS]
theorem Hd:(∀(s:List (Nat×AV)) (h:HP) (k0:Nat),back1 s h k0 AV.undef=[]) /\
 (∀(s:List (Nat×AV)) (h:HP) (k0:Nat) (b:Bool),back1 s h k0 (.bool b)=[]) /\
 (∀(s:List (Nat×AV)) (h:HP) (k0:Nat) (k:IntKind) (n:Int),back1 s h k0 (.int k n)=[]) /\
 (∀(s:List (Nat×AV)) (h:HP) (k0:Nat) (k:FloatKind) (n:Nat),back1 s h k0 (.fl k n)=[]) /\
 (∀(s:List (Nat×AV)) (h:HP) (k0:Nat) (k:FloatKind) (m n:Nat),back1 s h k0 (.cx k m n)=[]) /\
 (∀(s:List (Nat×AV)) (h:HP) (k0:Nat) (l:List UInt8),back1 s h k0 (.str l)=[]) /\
 (∀(s:List (Nat×AV)) (h:HP) (k0:Nat) (v:Value),back1 s h k0 (.lit v)=[]) /\
 (∀(s:List (Nat×AV)) (h:HP) (k0:Nat),back1 s h k0 AV.aj=[]) /\
 (∀(s:List (Nat×AV)) (h:HP) (k0:Nat) (sz:Nat) (es:List AV),back1 s h k0 (.ro sz es)=[]) /\
 (∀(s:List (Nat×AV)) (h:HP) (k0:Nat) (x:AV),back1 s h k0 (.ao x)=[]) /\
 (∀(s:List (Nat×AV)) (h:HP) (k0:Nat) (i j f:Nat),back1 s h k0 (.ptr i j f)=[]) /\
 (∀(s:List (Nat×AV)) (h:HP) (k0:Nat) (cs:List AV),back1 s h k0 (.agg cs)=[]) /\
 (∀(s:List (Nat×AV)) (h:HP) (k0:Nat) (cs:List AV),back1 s h k0 (.ab cs)=[]) /\
 (∀(s:List (Nat×AV)) (h:HP) (k0:Nat) (b:Bool) (x:AV),back1 s h k0 (.gd b x)=[]) /\
 (∀(s:List (Nat×AV)) (h:HP) (k0:Nat) (i f:Nat),back1 s h k0 (.aa i f)=[]) /\
 (∀(s:List (Nat×AV)) (h:HP) (k0:Nat) (i o n:Nat),back1 s h k0 (.sl i o n)=oA ((hget h i).isSome&&(sget s k0).isSome) [(k0,.sl i o n)]):=
 ⟨λ_ _ _=>rfl,λ_ _ _ _=>rfl,λ_ _ _ _ _=>rfl,λ_ _ _ _ _=>rfl,λ_ _ _ _ _ _=>rfl,λ_ _ _ _=>rfl,λ_ _ _ _=>rfl,λ_ _ _=>rfl,λ_ _ _ _ _=>rfl,λ_ _ _ _=>rfl,λ_ _ _ _ _ _=>rfl,λ_ _ _ _=>rfl,λ_ _ _ _=>rfl,λ_ _ _ _ _=>rfl,λ_ _ _ _ _=>rfl,λ_ _ _ _ _ _=>rfl⟩
theorem FE (st:St) (h:HP) (args:List AE) (h':HP) (as:List AV):gw st h args h' as=⟨backS st.s h' args as++killSI (dw h++dw h') (keepL2 (args.map (ev st)) as) st.s,h'++dropH (dw h++dw h') (keepL2 (args.map (ev st)) as) st.h⟩:=(rfl)
theorem WT (sz:Nat) (st:St):(∀l,srcE sz st (.str l)=l8 (sz==1) (some (l.map ub)) none)/\srcE sz st .aj=slE sz st .aj/\(∀sz' es,srcE sz st (.ro sz' es)=slE sz st (.ro sz' es))/\(∀id o n,srcE sz st (.sl id o n)=slE sz st (.sl id o n)):=
 ⟨λl=>by rw[<-vW];rfl,rfl,λ_ _=>rfl,λ_ _ _=>rfl⟩
theorem Ir (x:AV):aD x=(cellsOf x).all isCell:=(rfl)
theorem VN {α:Type} (l:List α) (k:Nat) (s:List α):bR l k s=l.take k++s++l.drop (k+s.length):=(rfl)
theorem SQ:(∀x,packC [x]=x)/\packC []=.agg []/\(∀x y r,packC (x::y::r)=.agg (x::y::r)):=⟨λ_=>rfl,rfl,λ_ _ _=>rfl⟩
theorem TD (γ β:Bool) (x y:AV) :
 (∀p q,pick2 γ β x y (.bool p) (.bool q)=.ok ((γ=true->β=true->aq true x)/\(γ=true->β=false->aq true y)) (.bool (if β then p else q))) /\
 (∀p,pick2 γ β x y (.bool p) .undef=.ok (γ=true->β=true/\aq true x) (.bool p)) /\
 (∀q,pick2 γ β x y .undef (.bool q)=.ok (γ=true->β=false/\aq true y) (.bool q)):=⟨λ_ _=>rfl,λ_=>rfl,λ_=>rfl⟩
theorem TE (γ β:Bool) (x y:AV):pickR γ (.bool β) x y=pick2 γ β x y (stripV x) (stripV y):=(rfl)
theorem O2 (st:St):(∀id o n,keepR st (.sl id o n)=keepSl st id o n (hget st.h id)) /\
 (∀b,keepR st (.bool b)=.ok (bx (.bool b)=true/\aD (.bool b)=true) (.bool b) st) /\
 (∀k n,keepR st (.int k n)=.ok (bx (.int k n)=true/\aD (.int k n)=true) (.int k n) st) /\
 (∀k n,keepR st (.fl k n)=.ok (bx (.fl k n)=true/\aD (.fl k n)=true) (.fl k n) st) /\
 (∀k a b,keepR st (.cx k a b)=.ok (bx (.cx k a b)=true/\aD (.cx k a b)=true) (.cx k a b) st) /\
 (∀l,keepR st (.str l)=.ok (bx (.str l)=true/\aD (.str l)=true) (.str l) st) /\
 (∀l,keepR st (.lit l)=.ok (bx (.lit l)=true/\aD (.lit l)=true) (.lit l) st) /\
 (keepR st .aj=.ok (bx .aj=true/\aD .aj=true) .aj st) /\
 (∀sz es,keepR st (.ro sz es)=.ok (bx (.ro sz es)=true/\aD (.ro sz es)=true) (.ro sz es) st) /\
 (∀x,keepR st (.ao x)=.ok (bx (.ao x)=true/\aD (.ao x)=true) (.ao x) st) /\
 (∀cs,keepR st (.agg cs)=.ok (bx (.agg cs)=true/\aD (.agg cs)=true) (.agg cs) st):=
 ⟨λ_ _ _=>rfl,λ_=>rfl,λ_ _=>rfl,λ_ _=>rfl,λ_ _ _=>rfl,λ_=>rfl,λ_=>rfl,rfl,λ_ _=>rfl,λ_=>rfl,λ_=>rfl⟩
theorem FZ :
 (∀(c:Prop) d v,andR c (.ok d v)=.ok (c/\d) v) /\
 (∀(c:Prop),andR c (.fail)=.fail):=
 ⟨(λ_ _ _=>rfl),(λ_=>rfl)⟩
theorem N4 :
 (∀(γ:Bool) (k:IntKind) (k':IntKind) (x:Int) (y:Int),intR γ (.shl) k k' x y=.ok (γ=true->0<=y) (.int k (k.wrap (x*2^(min y.toNat k.bits))))) /\
 (∀(γ:Bool) (k:IntKind) (k':IntKind) (x:Int) (y:Int),intR γ (.shr) k k' x y=.ok (γ=true->0<=y) (.int k (x.fdiv (2^(min y.toNat k.bits))))) /\
 (∀(γ:Bool) (k:IntKind) (k':IntKind) (x:Int) (y:Int),intR γ (.add) k k' x y=.ok (k=k') (.int k (k.wrap (x+y)))) /\
 (∀(γ:Bool) (k:IntKind) (k':IntKind) (x:Int) (y:Int),intR γ (.sub) k k' x y=.ok (k=k') (.int k (k.wrap (x-y)))) /\
 (∀(γ:Bool) (k:IntKind) (k':IntKind) (x:Int) (y:Int),intR γ (.mul) k k' x y=.ok (k=k') (.int k (k.wrap (x*y)))) /\
 (∀(γ:Bool) (k:IntKind) (k':IntKind) (x:Int) (y:Int),intR γ (.quo) k k' x y=.ok (k=k'/\(γ=true->y≠0)) (.int k (k.wrap (x.tdiv y)))) /\
 (∀(γ:Bool) (k:IntKind) (k':IntKind) (x:Int) (y:Int),intR γ (.rem) k k' x y=.ok (k=k'/\(γ=true->y≠0)) (.int k (x.tmod y))) /\
 (∀(γ:Bool) (k:IntKind) (k':IntKind) (x:Int) (y:Int),intR γ (.and) k k' x y=.ok (k=k') (.int k (bits .and k x y))) /\
 (∀(γ:Bool) (k:IntKind) (k':IntKind) (x:Int) (y:Int),intR γ (.or) k k' x y=.ok (k=k') (.int k (bits .or k x y))) /\
 (∀(γ:Bool) (k:IntKind) (k':IntKind) (x:Int) (y:Int),intR γ (.xor) k k' x y=.ok (k=k') (.int k (bits .xor k x y))) /\
 (∀(γ:Bool) (k:IntKind) (k':IntKind) (x:Int) (y:Int),intR γ (.andNot) k k' x y=.ok (k=k') (.int k (bits .andNot k x y))) /\
 (∀(γ:Bool) (k:IntKind) (k':IntKind) (x:Int) (y:Int),intR γ (.eql) k k' x y=.ok (k=k') (.bool (decide (x=y)))) /\
 (∀(γ:Bool) (k:IntKind) (k':IntKind) (x:Int) (y:Int),intR γ (.neq) k k' x y=.ok (k=k') (.bool (!decide (x=y)))) /\
 (∀(γ:Bool) (k:IntKind) (k':IntKind) (x:Int) (y:Int),intR γ (.lss) k k' x y=.ok (k=k') (.bool (decide (x<y)))) /\
 (∀(γ:Bool) (k:IntKind) (k':IntKind) (x:Int) (y:Int),intR γ (.leq) k k' x y=.ok (k=k') (.bool (decide (x<=y)))) /\
 (∀(γ:Bool) (k:IntKind) (k':IntKind) (x:Int) (y:Int),intR γ (.gtr) k k' x y=.ok (k=k') (.bool (decide (y<x)))) /\
 (∀(γ:Bool) (k:IntKind) (k':IntKind) (x:Int) (y:Int),intR γ (.geq) k k' x y=.ok (k=k') (.bool (decide (y<=x)))):=
 ⟨(λ_ _ _ _ _=>rfl),(λ_ _ _ _ _=>rfl),(λ_ _ _ _ _=>rfl),(λ_ _ _ _ _=>rfl),(λ_ _ _ _ _=>rfl),(λ_ _ _ _ _=>rfl),(λ_ _ _ _ _=>rfl),(λ_ _ _ _ _=>rfl),(λ_ _ _ _ _=>rfl),(λ_ _ _ _ _=>rfl),(λ_ _ _ _ _=>rfl),(λ_ _ _ _ _=>rfl),(λ_ _ _ _ _=>rfl),(λ_ _ _ _ _=>rfl),(λ_ _ _ _ _=>rfl),(λ_ _ _ _ _=>rfl),(λ_ _ _ _ _=>rfl)⟩
theorem Xg :
 (∀(γ:Bool) (x:List UInt8) (y:List UInt8),jS γ (.add) x y=.ok (γ=true->x.length+y.length<=9223372036854775807) (.str (x++y))) /\
 (∀(γ:Bool) (x:List UInt8) (y:List UInt8),jS γ (.eql) x y=.ok True (.bool (x==y))) /\
 (∀(γ:Bool) (x:List UInt8) (y:List UInt8),jS γ (.neq) x y=.ok True (.bool (!(x==y)))) /\
 (∀(γ:Bool) (x:List UInt8) (y:List UInt8),jS γ (.lss) x y=.ok True (.bool (Op.bytesLess x y))) /\
 (∀(γ:Bool) (x:List UInt8) (y:List UInt8),jS γ (.leq) x y=.ok True (.bool (Op.bytesLess x y||x==y))) /\
 (∀(γ:Bool) (x:List UInt8) (y:List UInt8),jS γ (.gtr) x y=.ok True (.bool (!(Op.bytesLess x y||x==y)))) /\
 (∀(γ:Bool) (x:List UInt8) (y:List UInt8),jS γ (.geq) x y=.ok True (.bool (!Op.bytesLess x y))):=
 ⟨(λ_ _ _=>rfl),(λ_ _ _=>rfl),(λ_ _ _=>rfl),(λ_ _ _=>rfl),(λ_ _ _=>rfl),(λ_ _ _=>rfl),(λ_ _ _=>rfl)⟩
theorem Lz :
 (∀(k:FloatKind) (k':FloatKind) (x:Nat) (y:Nat),iu (.add) k k' x y=.ok (k=k'/\(k.format.add x y).isSome=true) (.fl k ((k.format.add x y).getD 0))) /\
 (∀(k:FloatKind) (k':FloatKind) (x:Nat) (y:Nat),iu (.sub) k k' x y=.ok (k=k'/\(k.format.sub x y).isSome=true) (.fl k ((k.format.sub x y).getD 0))) /\
 (∀(k:FloatKind) (k':FloatKind) (x:Nat) (y:Nat),iu (.mul) k k' x y=.ok (k=k'/\(k.format.mul x y).isSome=true) (.fl k ((k.format.mul x y).getD 0))) /\
 (∀(k:FloatKind) (k':FloatKind) (x:Nat) (y:Nat),iu (.eql) k k' x y=.ok (k=k') (.bool (k.format.order x y==some .eq))) /\
 (∀(k:FloatKind) (k':FloatKind) (x:Nat) (y:Nat),iu (.neq) k k' x y=.ok (k=k') (.bool (k.format.order x y != some .eq))) /\
 (∀(k:FloatKind) (k':FloatKind) (x:Nat) (y:Nat),iu (.lss) k k' x y=.ok (k=k') (.bool (k.format.order x y==some .lt))) /\
 (∀(k:FloatKind) (k':FloatKind) (x:Nat) (y:Nat),iu (.gtr) k k' x y=.ok (k=k') (.bool (k.format.order x y==some .gt))) /\
 (∀(k:FloatKind) (k':FloatKind) (x:Nat) (y:Nat),iu (.leq) k k' x y=.ok (k=k') (.bool (k.format.order x y==some .lt||k.format.order x y==some .eq))) /\
 (∀(k:FloatKind) (k':FloatKind) (x:Nat) (y:Nat),iu (.geq) k k' x y=.ok (k=k') (.bool (k.format.order x y==some .gt||k.format.order x y==some .eq))):=
 ⟨(λ_ _ _ _=>rfl),(λ_ _ _ _=>rfl),(λ_ _ _ _=>rfl),(λ_ _ _ _=>rfl),(λ_ _ _ _=>rfl),(λ_ _ _ _=>rfl),(λ_ _ _ _=>rfl),(λ_ _ _ _=>rfl),(λ_ _ _ _=>rfl)⟩
theorem JF :
 (∀(k:FloatKind) (k':FloatKind) (a:Nat) (b:Nat) (c:Nat) (d:Nat),lT (.add) k k' a b c d=.ok (k=k'/\(k.format.add a c).isSome=true/\(k.format.add b d).isSome=true) (.cx k ((k.format.add a c).getD 0) ((k.format.add b d).getD 0))) /\
 (∀(k:FloatKind) (k':FloatKind) (a:Nat) (b:Nat) (c:Nat) (d:Nat),lT (.sub) k k' a b c d=.ok (k=k'/\(k.format.sub a c).isSome=true/\(k.format.sub b d).isSome=true) (.cx k ((k.format.sub a c).getD 0) ((k.format.sub b d).getD 0))) /\
 (∀(k:FloatKind) (k':FloatKind) (a:Nat) (b:Nat) (c:Nat) (d:Nat),lT (.eql) k k' a b c d=.ok (k=k') (.bool (k.format.order a c==some .eq&&k.format.order b d==some .eq))) /\
 (∀(k:FloatKind) (k':FloatKind) (a:Nat) (b:Nat) (c:Nat) (d:Nat),lT (.neq) k k' a b c d=.ok (k=k') (.bool (!(k.format.order a c==some .eq&&k.format.order b d==some .eq)))):=
 ⟨(λ_ _ _ _ _ _=>rfl),(λ_ _ _ _ _ _=>rfl),(λ_ _ _ _ _ _=>rfl),(λ_ _ _ _ _ _=>rfl)⟩
theorem Hv :
 (∀(γ:Bool) (op:BinOp) k a k' b,binR γ op (.int k a) (.int k' b)=intR γ op k k' a b) /\
 (∀(γ:Bool) (op:BinOp) a b,binR γ op (.str a) (.str b)=jS γ op a b) /\
 (∀(γ:Bool) (op:BinOp) k a k' b,binR γ op (.fl k a) (.fl k' b)=iu op k k' a b) /\
 (∀(γ:Bool) (op:BinOp) k a b k' c d,binR γ op (.cx k a b) (.cx k' c d)=lT op k k' a b c d):=
 ⟨(λ_ _ _ _ _ _=>rfl),(λ_ _ _ _=>rfl),(λ_ _ _ _ _ _=>rfl),(λ_ _ _ _ _ _ _ _=>rfl)⟩
theorem Hp :
 (∀(neg:Bool) a b,beqR neg (.bool a) (.bool b)=.ok True (.bool (if neg then !(a==b)else a==b))):=
 (λ_ _ _=>rfl)
theorem K3 :
 (∀a b,eqOK 0 (.bool a) (.bool b)=true)/\(∀k a k' b,eqOK 1 (.int k a) (.int k' b)=(k==k'))/\(∀a b,eqOK 2 (.str a) (.str b)=true):=⟨(λ_ _=>rfl),(λ_ _ _ _=>rfl),(λ_ _=>rfl)⟩
theorem K0 :
 (∀a b,eqC (.bool a) (.bool b)=(a==b))/\(∀k a k' b,eqC (.int k a) (.int k' b)=decide (a=b))/\(∀a b,eqC (.str a) (.str b)=(a==b)):=⟨(λ_ _=>rfl),(λ_ _ _ _=>rfl),(λ_ _=>rfl)⟩
theorem NM (k:IntKind):(k==k)=true:=by cases k<;>decide
theorem K5:eqOKs [] [] []=true:=(rfl)
theorem K4 (k:Nat) (ks:List Nat) (c:AV) (cs:List AV) (d:AV) (ds:List AV):eqOKs (k::ks) (c::cs) (d::ds)=(eqOK k c d&&eqOKs ks cs ds):=(rfl)
theorem K2:eqCs [] []=true:=(rfl)
theorem K1 (c:AV) (cs:List AV) (d:AV) (ds:List AV):eqCs (c::cs) (d::ds)=(eqC c d&&eqCs cs ds):=(rfl)
theorem FB (γ neg:Bool) (ks:List Nat) (cs ds:List AV):aeqR γ neg ks (.agg cs) (.agg ds)=.ok (γ=true->eqOKs ks cs ds=true) (.bool (if neg then !(eqCs cs ds)else eqCs cs ds)):=(rfl)
theorem Gz (γ:Bool) (st:St) (neg:Bool) (ks:List Nat) (x y:AE):avalR γ st (.mM neg ks x y)=andR (aq γ (ev st x)) (andR (aq γ (ev st y)) (aeqR γ neg ks (stripV (ev st x)) (stripV (ev st y)))):=(rfl)
theorem Yc :
 (∀b,unR (.not) (.bool b)=.ok True (.bool (!b))) /\
 (∀k n,unR (.neg) (.int k n)=.ok True (.int k (k.wrap (0-n)))) /\
 (∀k n,unR (.xor) (.int k n)=.ok True (.int k (bits .xor k (if k.signed then -1 else k.max) n))):=
 ⟨(λ_=>rfl),(λ_ _=>rfl),(λ_ _=>rfl)⟩
theorem JA :
 (∀(k:IntKind) u1 n,cviR k (.int u1 n)=.ok True (.int k (k.wrap n))):=
 (λ_ _ _=>rfl)
theorem IY :
 (∀(k:FloatKind) u1 n,qW k (.int u1 n)=.ok True (.fl k (k.nearest n))):=
 (λ_ _ _=>rfl)
theorem IU :
 (∀(γ:Bool) (k:IntKind) s b,cfiR γ k (.fl s b)=.ok (γ=true->(floatToIntVal s b k).isSome=true) (.int k ((floatToIntVal s b k).getD 0))):=
 (λ_ _ _ _=>rfl)
theorem Ju :
 (∀s,cstR (.str s)=.ok True (.str s)):=
 (λ_=>rfl)
theorem Ib :
 (∀(γ:Bool) es,btsR γ (some es)=.ok (γ=true->ib es=true) (.str (bytesOf es))) /\
 (∀(γ:Bool),btsR γ (none)=.fail):=
 ⟨(λ_ _=>rfl),(λ_=>rfl)⟩
theorem Jl :
 (∀k a k' b,cplxR (.fl k a) (.fl k' b)=.ok (k=k') (.cx k a b)):=
 (λ_ _ _ _=>rfl)
theorem Uv :
 (∀k a u1,reR (.cx k a u1)=.ok True (.fl k a)):=
 (λ_ _ _=>rfl)
theorem NQ :
 (∀k u1 b,rV (.cx k u1 b)=.ok True (.fl k b)):=
 (λ_ _ _=>rfl)
theorem QE :
 (∀l,lenR (true) (.str l)=.ok True (.int .i64 l.length)) /\
 (∀u1 es,lenR (false) (.ro u1 es)=.ok True (.int .i64 es.length)) /\
 (∀u1 u2 n,lenR (false) (.sl u1 u2 n)=.ok True (.int .i64 n)) /\
 (lenR (false) (.aj)=.ok True (.int .i64 0)):=
 ⟨(λ_=>rfl),(λ_ _=>rfl),(λ_ _ _=>rfl),rfl⟩
theorem Rl :
 (∀(mx:Bool) k a u1 b,mmR mx (.int k a) (.int u1 b)=.ok True (.int k (if mx then(if b > a then b else a)else(if b<a then b else a)))):=
 (λ_ _ _ _ _=>rfl)
theorem K8 :
 (∀(i:Nat) vs,extR (.ab vs) i=.ok (i<vs.length) (vs.getD i .undef)):=
 (λ_ _=>rfl)
theorem RN :
 (∀e,nilcR (.ao e)=.ok True (.ao e)) /\
 (∀id f,nilcR (.aa id f)=.ok True (.aa id f)):=
 ⟨(λ_=>rfl),(λ_ _=>rfl)⟩
theorem NF :
 (∀(γ:Bool) (sz:Nat) (id:Nat) (off:Nat) (n:Nat) (i:Int) sz' u1,idxW γ sz (some (.arr sz' u1)) id off n i=.ok ((γ=true->0<=i/\i<n)/\0<sz/\sz'=sz) (.ptr id (off+i.toNat) 0)):=
 (λ_ _ _ _ _ _ _ _=>rfl)
theorem NC :
 (∀(γ:Bool) (st:St) (sz:Nat) sz' es u1 i,idxR γ st sz (.ro sz' es) (.int u1 i)=.ok ((γ=true->0<=i/\i<es.length)/\0<sz/\sz'=sz) (.ao (nth es i.toNat))) /\
 (∀(γ:Bool) (st:St) (sz:Nat) id off n u1 i,idxR γ st sz (.sl id off n) (.int u1 i)=idxW γ sz (hget st.h id) id off n i):=
 ⟨(λ_ _ _ _ _ _ _=>rfl),(λ_ _ _ _ _ _ _ _=>rfl)⟩
theorem Wg :
 (∀(γ:Bool) l u1 i,sidxR γ (.str l) (.int u1 i)=.ok (γ=true->0<=i/\i<l.length) (.int .u8 (l.getD i.toNat 0).toNat)):=
 (λ_ _ _ _=>rfl)
theorem Qt :
 (∀(γ:Bool) (n:Nat) (cs:List AV),ldcR γ (true) n cs=.ok (γ=true->n<=cs.length) (.agg (cs.take n))) /\
 (∀(γ:Bool) (n:Nat) (cs:List AV),ldcR γ (false) n cs=.ok (γ=true->0<cs.length) (cs.getD 0 .undef)):=
 ⟨(λ_ _ _=>rfl),(λ_ _ _=>rfl)⟩
theorem Qn :
 (∀(γ:Bool) (ag:Bool) (n:Nat) (i:Nat) (f:Nat) u1 es,sd γ ag n i f (some (.arr u1 es))=ldcR γ ag n ((cellsOf (nth es i)).drop f)):=
 (λ_ _ _ _ _ _ _=>rfl)
theorem Qs :
 (∀(γ:Bool) (ag:Bool) (n:Nat) (f:Nat) cs,ldV γ ag n f (some (.var cs))=ldcR γ ag n (cs.drop f)):=
 (λ_ _ _ _ _=>rfl)
theorem Qr :
 (∀(γ:Bool) (st:St) (ag:Bool) (n:Nat) e,ldR γ st ag n (.ao e)=ldcR γ ag n (cellsOf e)) /\
 (∀(γ:Bool) (st:St) (ag:Bool) (n:Nat) id i f,ldR γ st ag n (.ptr id i f)=sd γ ag n i f (hget st.h id)) /\
 (∀(γ:Bool) (st:St) (ag:Bool) (n:Nat) id f,ldR γ st ag n (.aa id f)=ldV γ ag n f (hget st.h id)):=
 ⟨(λ_ _ _ _ _=>rfl),(λ_ _ _ _ _ _ _=>rfl),(λ_ _ _ _ _ _=>rfl)⟩
theorem G5 :
 (∀(γ:Bool) (n:Nat) (c:Prop) u1 l,qK γ n c (.int u1 l)=.ok (c/\(γ=true->0<=l/\l<=n)) l.toNat n):=
 (λ_ _ _ _ _=>rfl)
theorem G6 :
 (∀(γ:Bool) (n:Nat) (c:Prop) u1 h,qL γ n c (.int u1 h)=.ok (c/\(γ=true->0<=h/\h<=n)) 0 h.toNat):=
 (λ_ _ _ _ _=>rfl)
theorem G7 :
 (∀(γ:Bool) (n:Nat) (c:Prop) (c':Prop) u1 l u2 h,qM γ n c c' (.int u1 l) (.int u2 h)=.ok (c/\c'/\(γ=true->0<=l/\l<=h/\h<=n)) l.toNat h.toNat):=
 (λ_ _ _ _ _ _ _ _=>rfl)
theorem HM :
 (∀(γ:Bool) (st:St) (n:Nat),bndR γ st n (none) (none)=.ok True 0 n) /\
 (∀(γ:Bool) (st:St) (n:Nat) l,bndR γ st n (some l) (none)=qK γ n (aq γ (ev st l)) (stripV (ev st l))) /\
 (∀(γ:Bool) (st:St) (n:Nat) h,bndR γ st n (none) (some h)=qL γ n (aq γ (ev st h)) (stripV (ev st h))) /\
 (∀(γ:Bool) (st:St) (n:Nat) l h,bndR γ st n (some l) (some h)=qM γ n (aq γ (ev st l)) (aq γ (ev st h)) (stripV (ev st l)) (stripV (ev st h))):=
 ⟨(λ_ _ _=>rfl),(λ_ _ _ _=>rfl),(λ_ _ _ _=>rfl),(λ_ _ _ _ _=>rfl)⟩
theorem Wt :
 (∀(s:List UInt8) c l h,slcStrR s (.ok c l h)=.ok c (.str ((s.drop l).take (h-l)))) /\
 (∀(s:List UInt8),slcStrR s (.fail)=.fail):=
 ⟨(λ_ _ _ _=>rfl),(λ_=>rfl)⟩
theorem Wr :
 (∀(γ:Bool) (st:St) (lo:Option AE) (hi:Option AE) s,tk γ st lo hi (.str s)=slcStrR s (bndR γ st s.length lo hi)):=
 (λ_ _ _ _ _=>rfl)
theorem Wp :
 (∀c u1 u2,qb (.ok c u1 u2)=.ok c .aj) /\
 (qb (.fail)=.fail):=
 ⟨(λ_ _ _=>rfl),rfl⟩
theorem Wq :
 (∀(sz:Nat) (sz':Nat) (es:List AV) c l h,qc sz sz' es (.ok c l h)=.ok (sz'=sz/\c) (.ro sz (az es l (h-l)))) /\
 (∀(sz:Nat) (sz':Nat) (es:List AV),qc sz sz' es (.fail)=.fail):=
 ⟨(λ_ _ _ _ _ _=>rfl),(λ_ _ _=>rfl)⟩
theorem Ws :
 (∀(sz:Nat) (id:Nat) (off:Nat) c l h sz' u1,slcSlR sz id off (some (.arr sz' u1)) (.ok c l h)=.ok (c/\sz'=sz) (.sl id (off+l) (h-l))):=
 (λ_ _ _ _ _ _ _ _=>rfl)
theorem Wo :
 (∀(γ:Bool) (st:St) (sz:Nat) (lo:Option AE) (hi:Option AE),slcAR γ st sz lo hi (.aj)=qb (bndR γ st 0 lo hi)) /\
 (∀(γ:Bool) (st:St) (sz:Nat) (lo:Option AE) (hi:Option AE) sz' es,slcAR γ st sz lo hi (.ro sz' es)=qc sz sz' es (bndR γ st es.length lo hi)) /\
 (∀(γ:Bool) (st:St) (sz:Nat) (lo:Option AE) (hi:Option AE) id off n,slcAR γ st sz lo hi (.sl id off n)=slcSlR sz id off (hget st.h id) (bndR γ st n lo hi)):=
 ⟨(λ_ _ _ _ _=>rfl),(λ_ _ _ _ _ _ _=>rfl),(λ_ _ _ _ _ _ _ _=>rfl)⟩
theorem LN :
 (∀(off:Nat) (id:Nat) (i:Nat) (f:Nat) sz u1,rC off (some (.arr sz u1)) id i f=.ok (f+off<sz) (.ptr id i (f+off))):=
 (λ_ _ _ _ _ _=>rfl)
theorem LL :
 (∀(γ:Bool) (off:Nat) (n:Nat) (cs:List AV),rB γ (true) off n cs=.ok ((γ=true->off+n<=cs.length)/\0<n) (.ao (.agg ((cs.drop off).take n)))) /\
 (∀(γ:Bool) (off:Nat) (n:Nat) (cs:List AV),rB γ (false) off n cs=.ok ((γ=true->off+n<=cs.length)/\0<n/\n=1/\isCell (cs.getD off .undef)=true) (.ao (cs.getD off .undef))):=
 ⟨(λ_ _ _ _=>rfl),(λ_ _ _ _=>rfl)⟩
theorem LK :
 (∀(γ:Bool) (st:St) (ag:Bool) (off:Nat) (n:Nat) e,lZ γ st ag off n (.ao e)=rB γ ag off n (cellsOf e)) /\
 (∀(γ:Bool) (st:St) (ag:Bool) (off:Nat) (n:Nat) id i f,lZ γ st ag off n (.ptr id i f)=rC off (hget st.h id) id i f) /\
 (∀(γ:Bool) (st:St) (ag:Bool) (off:Nat) (n:Nat) id f,lZ γ st ag off n (.aa id f)=.ok True (.aa id (f+off))):=
 ⟨(λ_ _ _ _ _ _=>rfl),(λ_ _ _ _ _ _ _ _=>rfl),(λ_ _ _ _ _ _ _=>rfl)⟩
theorem LM :
 (∀(γ:Bool) (ag:Bool) (off:Nat) (n:Nat) cs,fldR γ ag off n (.agg cs)=.ok ((γ=true->off+n<=cs.length)/\0<n) (if ag then .agg ((cs.drop off).take n)else cs.getD off .undef)):=
 (λ_ _ _ _ _=>rfl)
theorem GC :
 (∀(γ:Bool) (st:St) x,avalR γ st (.fM x)=andR (aq γ (ev st x)) (.ok True (stripV (ev st x)))) /\
 (∀(γ:Bool) (st:St) c x y,avalR γ st (.pick c x y)=andR (aq γ (ev st c)) (pickR γ (stripV (ev st c)) (ev st x) (ev st y))) /\
 (∀(γ:Bool) (st:St) op x y,avalR γ st (.bin op x y)=andR (aq γ (ev st x)) (andR (aq γ (ev st y)) (binR γ op (stripV (ev st x)) (stripV (ev st y))))) /\
 (∀(γ:Bool) (st:St) neg x y,avalR γ st (.beq neg x y)=andR (aq γ (ev st x)) (andR (aq γ (ev st y)) (beqR neg (stripV (ev st x)) (stripV (ev st y))))) /\
 (∀(γ:Bool) (st:St) op x,avalR γ st (.un op x)=andR (aq γ (ev st x)) (unR op (stripV (ev st x)))) /\
 (∀(γ:Bool) (st:St) k x,avalR γ st (.oX k x)=andR (aq γ (ev st x)) (cviR k (stripV (ev st x)))) /\
 (∀(γ:Bool) (st:St) k x,avalR γ st (.oO k x)=andR (aq γ (ev st x)) (qW k (stripV (ev st x)))) /\
 (∀(γ:Bool) (st:St) k x,avalR γ st (.oM k x)=andR (aq γ (ev st x)) (cfiR γ k (stripV (ev st x)))) /\
 (∀(γ:Bool) (st:St) x,avalR γ st (.oV x)=andR (aq γ (ev st x)) (cstR (stripV (ev st x)))) /\
 (∀(γ:Bool) (st:St) x,avalR γ st (.oH x)=andR (aq γ (ev st x)) (btsR γ (slE 1 st (stripV (ev st x))))) /\
 (∀(γ:Bool) (st:St) x y,avalR γ st (.oT x y)=andR (aq γ (ev st x)) (andR (aq γ (ev st y)) (cplxR (stripV (ev st x)) (stripV (ev st y))))) /\
 (∀(γ:Bool) (st:St) x,avalR γ st (.re x)=andR (aq γ (ev st x)) (reR (stripV (ev st x)))) /\
 (∀(γ:Bool) (st:St) x,avalR γ st (.im x)=andR (aq γ (ev st x)) (rV (stripV (ev st x)))) /\
 (∀(γ:Bool) (st:St) str x,avalR γ st (.len str x)=andR (aq γ (ev st x)) (lenR str (stripV (ev st x)))) /\
 (∀(γ:Bool) (st:St) mx x y,avalR γ st (.mm mx x y)=andR (aq γ (ev st x)) (andR (aq γ (ev st y)) (mmR mx (stripV (ev st x)) (stripV (ev st y))))) /\
 (∀(γ:Bool) (st:St) x i,avalR γ st (.ext x i)=andR (aq γ (ev st x)) (extR (stripV (ev st x)) i)) /\
 (∀(γ:Bool) (st:St) x,avalR γ st (.pL x)=andR (aq γ (ev st x)) (nilcR (stripV (ev st x)))) /\
 (∀(γ:Bool) (st:St) sz x i,avalR γ st (.ek sz x i)=andR (aq γ (ev st x)) (andR (aq γ (ev st i)) (idxR γ st sz (stripV (ev st x)) (stripV (ev st i))))) /\
 (∀(γ:Bool) (st:St) x i,avalR γ st (.p8 x i)=andR (aq γ (ev st x)) (andR (aq γ (ev st i)) (sidxR γ (stripV (ev st x)) (stripV (ev st i))))) /\
 (∀(γ:Bool) (st:St) ag n x,avalR γ st (.ld ag n x)=andR (aq γ (ev st x)) (ldR γ st ag n (stripV (ev st x)))) /\
 (∀(γ:Bool) (st:St) x lo hi,avalR γ st (.qd x lo hi)=andR (aq γ (ev st x)) (tk γ st lo hi (stripV (ev st x)))) /\
 (∀(γ:Bool) (st:St) sz x lo hi,avalR γ st (.qa sz x lo hi)=andR (aq γ (ev st x)) (slcAR γ st sz lo hi (stripV (ev st x)))) /\
 (∀(γ:Bool) (st:St) ag off n x,avalR γ st (.o7 ag off n x)=andR (aq γ (ev st x)) (lZ γ st ag off n (stripV (ev st x)))) /\
 (∀(γ:Bool) (st:St) ag off n x,avalR γ st (.o6 ag off n x)=andR (aq γ (ev st x)) (fldR γ ag off n (stripV (ev st x)))):=
 ⟨(λ_ _ _=>rfl),(λ_ _ _ _ _=>rfl),(λ_ _ _ _ _=>rfl),(λ_ _ _ _ _=>rfl),(λ_ _ _ _=>rfl),(λ_ _ _ _=>rfl),(λ_ _ _ _=>rfl),(λ_ _ _ _=>rfl),(λ_ _ _=>rfl),(λ_ _ _=>rfl),(λ_ _ _ _=>rfl),(λ_ _ _=>rfl),(λ_ _ _=>rfl),(λ_ _ _ _=>rfl),(λ_ _ _ _ _=>rfl),(λ_ _ _ _=>rfl),(λ_ _ _=>rfl),(λ_ _ _ _ _=>rfl),(λ_ _ _ _=>rfl),(λ_ _ _ _ _=>rfl),(λ_ _ _ _ _=>rfl),(λ_ _ _ _ _ _=>rfl),(λ_ _ _ _ _ _=>rfl),(λ_ _ _ _ _ _=>rfl)⟩
theorem Hy (γ:Bool) (st:St) (cs:List AV):bldR γ st [] cs=.ok True (.agg cs):=(rfl)
theorem Hw (γ:Bool) (st:St) (o n:Nat) (x:AE) (r:List (Nat×Nat×AE)) (cs:List AV) :
    bldR γ st ((o,n,x)::r) cs=andR (aq γ (ev st x)) (andR (γ=true->aD (stripV (ev st x))=true/\(cellsOf (stripV (ev st x))).length=n/\o+n<=cs.length) (bldR γ st r (cs.take o++cellsOf (stripV (ev st x))++cs.drop (o+n)))):=(rfl)
theorem GA (γ:Bool) (st:St) (z:List AV) (ps:List (Nat×Nat×AE)):avalR γ st (.mS z ps)=bldR γ st ps z:=(rfl)
theorem GD (γ:Bool) (st:St) (len sz:Nat) (x i:AE):avalR γ st (.pn len sz x i)=andR (aq γ (ev st x)) (andR (aq γ (ev st i)) (idxPR γ len sz (stripV (ev st x)) (stripV (ev st i)))):=(rfl)
theorem GF (γ:Bool) (st:St) (len:Nat) (x i:AE):avalR γ st (.po len x i)=andR (aq γ (ev st x)) (andR (aq γ (ev st i)) (idxVR γ len (stripV (ev st x)) (stripV (ev st i)))):=(rfl)
theorem GL (γ:Bool) (st:St) (neg:Bool) (x:AE):avalR γ st (.nV neg x)=andR (aq γ (ev st x)) (snilR γ st neg (stripV (ev st x))):=(rfl)
theorem Nz (γ:Bool) (len sz:Nat) (cs:List AV) (k:IntKind) (i:Int):idxPR γ len sz (.ao (.agg cs)) (.int k i)=.ok ((γ=true->0<=i/\i<len/\i<cs.length)/\sz=1/\isCell (cs.getD i.toNat .undef)=true) (.ao (cs.getD i.toNat .undef)):=(rfl)
theorem NA (γ:Bool) (len sz id f:Nat) (k:IntKind) (i:Int):idxPR γ len sz (.aa id f) (.int k i)=.ok (γ=true->0<=i/\i<len) (.aa id (f+i.toNat*sz)):=(rfl)
theorem ND (γ:Bool) (len:Nat) (cs:List AV) (k:IntKind) (i:Int):idxVR γ len (.agg cs) (.int k i)=.ok (γ=true->0<=i/\i<len/\i<cs.length) (cs.getD i.toNat .undef):=(rfl)
theorem Wy (γ neg:Bool) (n sz:Nat) (es:List AV):tn γ neg n (some (.arr sz es))=.ok (γ=true->0<n) (.bool neg):=(rfl)
theorem GG (γ:Bool) (st:St) (neg:Bool) (x:AE):avalR γ st (.nE neg x)=andR (aq γ (ev st x)) (inilR γ neg (stripV (ev st x))):=(rfl)
theorem GI (γ:Bool) (st:St) (t:TypeId) (x:AE):avalR γ st (.pE t x)=andR (aq γ (ev st x)) (mkiR t (stripV (ev st x))):=(rfl)
theorem GB (γ:Bool) (st:St) (x:AE):avalR γ st (.oY x)=andR (aq γ (ev st x)) (rb (stripV (ev st x))):=(rfl)
def mb (st:St):List AE->List AV
 | []=>[]
 | x::r=>ev st x::mb st r
theorem Cf (st:St):∀l,l.map (ev st)=mb st l
 | []=>rfl
 | x::r=>by rw[aaj,Cf st r];rfl
theorem QY (st:St):mb st []=[]/\(∀x r,mb st (x::r)=ev st x::mb st r):=⟨rfl,λ_ _=>rfl⟩
theorem YI:mF []=true/\(∀i f r,mF (.aa i f::r)=mF r):=⟨rfl,λ_ _ _=>rfl⟩
theorem GH (γ:Bool) (st:St) (f:Nat) (xs:List AE):avalR γ st (.pD f xs)=.ok (mF (mb st xs)=true) (.aB f (mb st xs)):=by rw[<-Cf];rfl
theorem OQ (f:Nat) (cs:List AV) (a:AV):keep1 (.aB f cs) a=[]:=(rfl)
theorem OT (p f g:Nat) (cs:List AV):keep1 (.aa p f) (.aB g cs)=[]:=(rfl)
theorem Hc (s:List (Nat×AV)) (h:HP) (k0 f:Nat) (cs:List AV):back1 s h k0 (.aB f cs)=[]:=(rfl)
theorem JB (k:IntKind) (n:Int):rb (.int k n)=.ok True (.str (Utf8.encode n).data.toList):=(rfl)
theorem Q9 (t:TypeId):mkiR t (.agg [])=.ok True (.lit (.iface t (.agg #[]))):=(rfl)
theorem Q8 (t:TypeId) (k:IntKind) (n:Int):mkiR t (.int k n)=.ok True (.lit (.iface t (.int k n))):=(rfl)
theorem Rb (id:Nat) (st:St) (sz bytes:Nat) (z:List AV) (n m:Int):mksR id st sz bytes z (.int .i64 n) (.int .i64 m)=.ok (0<=n/\m=n/\n<=16777216/\n*bytes<=16777216/\z.all noRefC=true/\z.length=sz) (.sl id 0 n.toNat) (bG st id (.arr sz (List.replicate n.toNat (packC z)))):=(rfl)
theorem GK (γ:Bool) (st:St) (neg:Bool) (x:AE):avalR γ st (.nM neg x)=andR (aq γ (ev st x)) (pnilR neg (stripV (ev st x))):=(rfl)
theorem TN (neg:Bool) (x:AV):pnilR neg (.ao x)=.ok True (.bool neg):=(rfl)
theorem TQ (neg:Bool) (i f:Nat):pnilR neg (.aa i f)=.ok True (.bool neg):=(rfl)
theorem TP (neg:Bool):pnilR neg (.lit (.pointer none))=.ok True (.bool (!neg)):=(rfl)
theorem N1 (γ neg:Bool):inilR γ neg (.lit .nilIface)=.ok True (.bool (if neg then false else true)):=by cases neg<;>simp[inilR,isNilV,isIfV]
theorem N0 (γ neg:Bool) (t:TypeId) (v:Value):inilR γ neg (.lit (.iface t v))=.ok True (.bool (if neg then true else false)):=by cases neg<;>simp[inilR,isNilV,isIfV]
theorem GJ (γ:Bool) (st:St) kd ok z (x i:AE):avalR γ st (.pF kd ok z x i)=andR (aq γ (ev st x)) (andR (aq γ (ev st i)) (mlkR st kd ok z (stripV (ev st x)) (stripV (ev st i)))):=(rfl)
theorem Q7 (l:List UInt8):mkOf (.str l)=some (.s l):=(rfl)
theorem Q6 (k:IntKind) (n:Int):mkOf (.int k n)=some (.i k n):=(rfl)
theorem Rh (st:St) kd ok z id i f (x:AV):mlkR st kd ok z (.ptr id i f) x=mlkK st kd ok z id (mkOf x):=(rfl)
theorem Re (st:St) kd ok z id k:mlkK st kd ok z id (some k)=mlkW kd ok z k (hget st.h id):=(rfl)
theorem Ri kd ok z k kd' (l:List (MK×AV)):mlkW kd ok z k (some (.mp kd' l))=.ok (kd'=kd/\MK.ok kd k) (pG ok z (mfind l k)):=(rfl)
theorem Ro (z:AV) (o:Option AV):pG true z o=.ab [o.getD z,.bool o.isSome]:=(rfl)
theorem Rn (z:AV) (o:Option AV):pG false z o=o.getD z:=(rfl)
theorem Fb (b:List UInt8):MK.ok none (.s b)=True:=(rfl)
theorem Fa (k k':IntKind) (n:Int):MK.ok (some k) (.i k' n)=(k'=k):=(rfl)
theorem Rr (st:St) kd id i f (k v:AV):mupR st kd (.ptr id i f) k v=mupK st id kd (mkOf k) v:=(rfl)
theorem Rq (st:St) id kd k (v:AV):mupK st id kd (some k) v=mupW st id kd k v (hget st.h id):=(rfl)
theorem Rs (st:St) id kd k (v:AV) kd' (l:List (MK×AV)):mupW st id kd k v (some (.mp kd' l))=.ok (kd'=kd/\MK.ok kd k/\bx v=true) .undef ⟨st.s,bn st.h id (.mp kd (mput l k v))⟩:=(rfl)
theorem KI (id:Nat) (st:St) kd:effR id st (.mc kd)=.ok True (.ptr id 0 0) (bG st id (.mp kd [])):=(rfl)
theorem KJ (id:Nat) (st:St) kd x k v:effR id st (.mf kd x k v)=mupR st kd (ev st x) (ev st k) (ev st v):=(rfl)
theorem Wx :
 (∀(γ:Bool) (st:St) (neg:Bool),snilR γ st neg (.aj)=.ok True (.bool (!neg))) /\
 (∀(γ:Bool) (st:St) (neg:Bool) id o n,snilR γ st neg (.sl id o n)=tn γ neg n (hget st.h id)) /\
 (∀(γ:Bool) (st:St) (neg:Bool) sz es,snilR γ st neg (.ro sz es)=.ok (γ=true->0<es.length/\0<sz) (.bool neg)):=
 ⟨(λ_ _ _=>rfl),(λ_ _ _ _ _ _=>rfl),(λ_ _ _ _ _=>rfl)⟩
theorem O3 :
 (∀(st:St) (id:Nat) (o:Nat) (n:Nat) sz es,keepSl st id o n (some (.arr sz es))=.ok True (.ro sz (az es o n)) (freeze st id)):=
 (λ_ _ _ _ _ _=>rfl)
theorem UT :
 (∀(c:Prop) (v:AV) d vs st,rl2 c v (.ok d vs st)=.ok (c/\d) (v::vs) st) /\
 (∀(c:Prop) (v:AV),rl2 c v (.fail)=.fail):=
 ⟨(λ_ _ _ _ _=>rfl),(λ_ _=>rfl)⟩
theorem US :
 (∀(r:List AE) c v st1,xB r (.ok c v st1)=rl2 c v (keepLR r st1)) /\
 (∀(r:List AE),xB r (.fail)=.fail):=
 ⟨(λ_ _ _ _=>rfl),(λ_=>rfl)⟩
theorem H9 :
 (∀(id:Nat) (sz:Nat) c es st',oG id sz (.ok c es st')=.ok (c/\es.all (λe=>(cellsOf e).length==sz)=true) (.sl id 0 es.length) (bG st' id (.arr sz es))) /\
 (∀(id:Nat) (sz:Nat),oG id sz (.fail)=.fail):=
 ⟨(λ_ _ _ _ _=>rfl),(λ_ _=>rfl)⟩
theorem Gl :
 (∀(st:St) (sz:Nat) (bytes:Nat) (id:Nat) (off:Nat) (n:Nat) (xs:List AV) sz' es,qI st sz bytes id off n xs (some (.arr sz' es))=.ok (xs.all aD=true/\sz'=sz/\(az es off n).all aD=true/\(n+xs.length)*bytes<=140737488355328/\n+xs.length<=9223372036854775807) (.sl id 0 (n+xs.length)) (bG st id (.arr sz (az es off n++xs)))):=
 (λ_ _ _ _ _ _ _ _ _=>rfl)
theorem Gk :
 (∀(d:Nat) (st:St) (sz:Nat) (bytes:Nat) xs,appR d st sz bytes (.aj) (some xs)=.ok (xs.all aD=true/\xs.length*bytes<=140737488355328/\xs.length<=9223372036854775807) (.sl d 0 xs.length) (bG st d (.arr sz xs))) /\
 (∀(d:Nat) (st:St) (sz:Nat) (bytes:Nat) xs id off n,appR d st sz bytes (.sl id off n) (some xs)=qI st sz bytes id off n xs (hget st.h id)):=
 ⟨(λ_ _ _ _ _=>rfl),(λ_ _ _ _ _ _ _ _=>rfl)⟩
theorem W8 :
 (∀(st:St) (n:Nat) (id:Nat) (i:Nat) (f:Nat) (v:AV) sz es,tu st n id i f v (some (.arr sz es))=.ok ((cellsOf v).length=n/\0<n/\f+n<=sz) .undef ⟨st.s,bn st.h id (.arr sz (es.set i (jk (nth es i) f v)))⟩):=
 (λ_ _ _ _ _ _ _ _=>rfl)
theorem WZ :
 (∀(n:Nat) (id:Nat) (i:Nat) (f:Nat) (c:Prop) (v:AV) (st:St) d u st',qi n id i f c v st (.ok d u st')=.ok (c/\d) u st') /\
 (∀(n:Nat) (id:Nat) (i:Nat) (f:Nat) (c:Prop) (v:AV) (st:St),qi n id i f c v st (.fail)=.fail):=
 ⟨(λ_ _ _ _ _ _ _ _ _ _=>rfl),(λ_ _ _ _ _ _ _=>rfl)⟩
theorem W3 :
 (∀(n:Nat) (id:Nat) (i:Nat) (f:Nat) c v st,qh n id i f (.ok c v st)=qi n id i f c v st (tu st n id i f v (hget st.h id))) /\
 (∀(n:Nat) (id:Nat) (i:Nat) (f:Nat),qh n id i f (.fail)=.fail):=
 ⟨(λ_ _ _ _ _ _ _=>rfl),(λ_ _ _ _=>rfl)⟩
theorem W7 :
 (∀(st:St) (n:Nat) (id:Nat) (f:Nat) (v:AV) cs,stV st n id f v (some (.var cs))=.ok (aD v=true/\(cellsOf v).length=n/\f+n<=cs.length) .undef ⟨st.s,bn st.h id (.var (bR cs f (cellsOf v)))⟩):=
 (λ_ _ _ _ _ _=>rfl)
theorem W5 :
 (∀(st:St) (n:Nat) (v:AV) id i f,stR st n (.ptr id i f) v=qh n id i f (keepR st v)) /\
 (∀(st:St) (n:Nat) (v:AV) id f,stR st n (.aa id f) v=stV st n id f v (hget st.h id)):=
 ⟨(λ_ _ _ _ _ _=>rfl),(λ_ _ _ _ _=>rfl)⟩
theorem Xa :
 (∀(st:St) (id:Nat) l,stbR st id (.str l)=.ok True (.sl id 0 l.length) (bG st id (.arr 1 (l.map ub)))):=
 (λ_ _ _=>rfl)
theorem KH :
 (∀(id:Nat) (st:St) z,effR id st (.alloc z)=.ok (z.all noRefC=true) (.aa id 0) (bG st id (.var (z.map (killC id))))) /\
 (∀(id:Nat) (st:St) n x,effR id st (.box n x)=.ok (aD (ev st x)=true/\(cellsOf (ev st x)).length=n) (.aa id 0) (bG st id (.var ((cellsOf (ev st x)).map (killC id))))) /\
 (∀(id:Nat) (st:St) sz xs,effR id st (.lR sz xs)=oG id sz (keepLR xs st)) /\
 (∀(id:Nat) (st:St) sz bytes s x,effR id st (.app sz bytes s x)=appR id st sz bytes (ev st s) (srcE sz st (ev st x))) /\
 (∀(id:Nat) (st:St) n x v,effR id st (.st n x v)=stR st n (ev st x) (ev st v)) /\
 (∀(id:Nat) (st:St) sz b z l c,effR id st (.me sz b z l c)=mksR id st sz b z (ev st l) (ev st c)) /\
 (∀(id:Nat) (st:St) x,effR id st (.mw x)=stbR st id (ev st x)):=
 ⟨(λ_ _ _=>rfl),(λ_ _ _ _=>rfl),(λ_ _ _ _=>rfl),(λ_ _ _ _ _ _=>rfl),(λ_ _ _ _ _=>rfl),(λ_ _ _ _ _ _ _=>rfl),(λ_ _ _=>rfl)⟩
attribute [go_sem] GK TN TQ TP GJ Q7 Q6 Rh Re Ri Ro Rn Fb Fa Rr Rq Rs KI KJ aaa Z6 abu ab4 QY YI GH OQ OT Hc K7 T4 My RG Pd Mf UD OM NV LB NT Lv Ry Sj UC UB W6 WY WX NH NG Wm OK OU OV OW OS G8 Hj Hg Hi Hd FE WT Wl Ir VN SQ TD TE O2 FZ N4 Xg Lz JF Hv Hp K3 NM K0 K5 K4 K2 K1 FB Gz Yc JA IY IU Ju Ib Jl Uv NQ QE Rl K8 RN NF NC Wg Qt Qn Qs Qr G5 G6 G7 HM Wt Wr Wp Wq Ws Wo LN LL LK LM GC Hy Hw GA GD GF GL NA Nz ND Wy Wx GG N1 N0 GI Q9 Q8 Rb GB JB O3 UT US H9 Gl Gk W8 WZ W3 W7 W5 Xa KH Jy Jw VQ VP HW O0 OZ HX O6 O5 Pe L7 L6 Mg UA Uz UE OP OO OL H0 H2 Hn HT HY RO Lu Om RU RQ Lr LA LY LX Lw NS NR NU Xl Xk
end Go.Proofs.YtkdjbebgdoohjaaGreatDoor.Eng
