/- The proof, part 7 of 42. -/
import Derived.Test.YtoalcafkffmiiaaGreatDoorOdbSureF
set_option linter.all false
namespace Go.Proofs.YtoalcafkffmiiaaGreatDoor.Eng
def cu (b:Bool) (x:AV):AV:=match b with
 | true=>.undef
 | false=>x
def jh (b:Bool) (x y:AV):AV:=match b with
 | true=>x
 | false=>y
theorem fj {i j:Nat} {x:AV}:(if i=j then AV.undef else x)=cu (i==j) x:=by
 by_cases h:i=j
 ·subst h;rw[if_pos rfl,show(i==i)=true by simp];rfl
 ·rw[if_neg h,show(i==j)=false by simp[h]];rfl
theorem tH {i j:Nat} {x y:AV}:(if i=j then x else y)=jh (i==j) x y:=by
 by_cases h:i=j
 ·subst h;rw[if_pos rfl,show(i==i)=true by simp];rfl
 ·rw[if_neg h,show(i==j)=false by simp[h]];rfl
theorem jv {b:Bool} {x:AV}:(if b=true then AV.undef else x)=cu b x:=by cases b<;>rfl
theorem tI {b:Bool} {x y:AV}:(if b=true then x else y)=jh b x y:=by cases b<;>rfl
theorem Kq {x:AV}:cu true x=.undef:=(rfl)
theorem Kp {x:AV}:cu false x=x:=(rfl)
theorem alY {x y:AV}:jh true x y=x:=(rfl)
theorem alX {x y:AV}:jh false x y=y:=(rfl)
def borSl (W:Option aG) (o n:Nat):AV:=match W with
 | some (.arr sz es)=>.ro sz (aI es o n)
 | _=>.undef
theorem HT {sz o n:Nat} {es:List AV}:borSl (some (.arr sz es)) o n=.ro sz (aI es o n):=(rfl)
def keepO (W:Option aG) (x y:AV):AV:=match W with
 | some _=>x
 | none=>y
theorem Yn {W:aG} {x y:AV}:keepO (some W) x y=x:=(rfl)
theorem Ym {x y:AV}:keepO none x y=y:=(rfl)
def borV (h0 h:HP) (W:Option aG) (f:Nat):AV:=match W,f with
 | some (.var cs),0=>.aA (packC (cs.map (bcell h0 h)))
 | _,_=>.undef
theorem HU {h0 h:HP} {cs:List AV}:borV h0 h (some (.var cs)) 0=.aA (packC (cs.map (bcell h0 h))):=(rfl)
theorem Ys (id:Nat) :
 (killC id AV.undef=AV.undef) ∧
 (∀(b:Bool),killC id (.bool b)=(.bool b)) ∧
 (∀(k:IntKind) (n:Int),killC id (.int k n)=(.int k n)) ∧
 (∀(k:FloatKind) (n:Nat),killC id (.fl k n)=(.fl k n)) ∧
 (∀(k:FloatKind) (a b:Nat),killC id (.cx k a b)=(.cx k a b)) ∧
 (∀(l:List UInt8),killC id (.str l)=(.str l)) ∧
 (∀(x:Value),killC id (.lit x)=(.lit x)) ∧
 (killC id AV.aq=AV.aq) ∧
 (∀(sz0:Nat) (es0:List AV),killC id (.ro sz0 es0)=(.ro sz0 es0)) ∧
 (∀(x:AV),killC id (.aA x)=(.aA x)) ∧
 (∀(i o n:Nat),killC id (.sl i o n)=cu (i==id) (.sl i o n)) ∧
 (∀(i j f:Nat),killC id (.ptr i j f)=cu (i==id) (.ptr i j f)) ∧
 (∀(i f:Nat),killC id (.ab i f)=cu (i==id) (.ab i f)) ∧
 (∀(cs:List AV),killC id (.agg cs)=AV.undef) ∧
 (∀(cs:List AV),killC id (.ai cs)=AV.undef) ∧
 (∀(b:Bool) (x:AV),killC id (.gd b x)=AV.undef) ∧
 (∀(f:Nat) (cs:List AV),killC id (.aK f cs)=AV.undef):=
 ⟨rfl,fun _=>rfl,fun _ _=>rfl,fun _ _=>rfl,fun _ _ _=>rfl,fun _=>rfl,fun _=>rfl,rfl,fun _ _=>rfl,fun _=>rfl,fun _ _ _=>fj,fun _ _ _=>fj,fun _ _=>fj,fun _=>rfl,fun _=>rfl,fun _ _=>rfl,fun _ _=>rfl⟩
theorem Yr (id:Nat) :
 (killA id AV.undef=AV.undef) ∧
 (∀(b:Bool),killA id (.bool b)=(.bool b)) ∧
 (∀(k:IntKind) (n:Int),killA id (.int k n)=(.int k n)) ∧
 (∀(k:FloatKind) (n:Nat),killA id (.fl k n)=(.fl k n)) ∧
 (∀(k:FloatKind) (a b:Nat),killA id (.cx k a b)=(.cx k a b)) ∧
 (∀(l:List UInt8),killA id (.str l)=(.str l)) ∧
 (∀(x:Value),killA id (.lit x)=(.lit x)) ∧
 (killA id AV.aq=AV.aq) ∧
 (∀(sz0:Nat) (es0:List AV),killA id (.ro sz0 es0)=(.ro sz0 es0)) ∧
 (∀(x:AV),killA id (.aA x)=(.aA x)) ∧
 (∀(i o n:Nat),killA id (.sl i o n)=cu (i==id) (.sl i o n)) ∧
 (∀(i j f:Nat),killA id (.ptr i j f)=cu (i==id) (.ptr i j f)) ∧
 (∀(i f:Nat),killA id (.ab i f)=cu (i==id) (.ab i f)) ∧
 (∀(cs:List AV),killA id (.agg cs)=.agg (cs.map (killC id))) ∧
 (∀(cs:List AV),killA id (.ai cs)=AV.undef) ∧
 (∀(b:Bool) (x:AV),killA id (.gd b x)=AV.undef) ∧
 (∀(f:Nat) (cs:List AV),killA id (.aK f cs)=.aK f (cs.map (killC id))):=
 ⟨rfl,fun _=>rfl,fun _ _=>rfl,fun _ _=>rfl,fun _ _ _=>rfl,fun _=>rfl,fun _=>rfl,rfl,fun _ _=>rfl,fun _=>rfl,fun _ _ _=>fj,fun _ _ _=>fj,fun _ _=>fj,fun _=>rfl,fun _=>rfl,fun _ _=>rfl,fun _ _=>rfl⟩
theorem YA (id:Nat) :
 (kill id AV.undef=AV.undef) ∧
 (∀(b:Bool),kill id (.bool b)=(.bool b)) ∧
 (∀(k:IntKind) (n:Int),kill id (.int k n)=(.int k n)) ∧
 (∀(k:FloatKind) (n:Nat),kill id (.fl k n)=(.fl k n)) ∧
 (∀(k:FloatKind) (a b:Nat),kill id (.cx k a b)=(.cx k a b)) ∧
 (∀(l:List UInt8),kill id (.str l)=(.str l)) ∧
 (∀(x:Value),kill id (.lit x)=(.lit x)) ∧
 (kill id AV.aq=AV.aq) ∧
 (∀(sz0:Nat) (es0:List AV),kill id (.ro sz0 es0)=(.ro sz0 es0)) ∧
 (∀(x:AV),kill id (.aA x)=(.aA x)) ∧
 (∀(i o n:Nat),kill id (.sl i o n)=cu (i==id) (.sl i o n)) ∧
 (∀(i j f:Nat),kill id (.ptr i j f)=cu (i==id) (.ptr i j f)) ∧
 (∀(i f:Nat),kill id (.ab i f)=cu (i==id) (.ab i f)) ∧
 (∀(cs:List AV),kill id (.agg cs)=.agg (cs.map (killC id))) ∧
 (∀(cs:List AV),kill id (.ai cs)=.ai (cs.map (killA id))) ∧
 (∀(b:Bool) (x:AV),kill id (.gd b x)=.gd b (killA id x)) ∧
 (∀(f:Nat) (cs:List AV),kill id (.aK f cs)=.aK f (cs.map (killC id))):=
 ⟨rfl,fun _=>rfl,fun _ _=>rfl,fun _ _=>rfl,fun _ _ _=>rfl,fun _=>rfl,fun _=>rfl,rfl,fun _ _=>rfl,fun _=>rfl,fun _ _ _=>fj,fun _ _ _=>fj,fun _ _=>fj,fun _=>rfl,fun _=>rfl,fun _ _=>rfl,fun _ _=>rfl⟩
theorem PM (id sz:Nat) (es:List AV) :
 (bS id sz es AV.undef=AV.undef) ∧
 (∀(b:Bool),bS id sz es (.bool b)=(.bool b)) ∧
 (∀(k:IntKind) (n:Int),bS id sz es (.int k n)=(.int k n)) ∧
 (∀(k:FloatKind) (n:Nat),bS id sz es (.fl k n)=(.fl k n)) ∧
 (∀(k:FloatKind) (a b:Nat),bS id sz es (.cx k a b)=(.cx k a b)) ∧
 (∀(l:List UInt8),bS id sz es (.str l)=(.str l)) ∧
 (∀(x:Value),bS id sz es (.lit x)=(.lit x)) ∧
 (bS id sz es AV.aq=AV.aq) ∧
 (∀(sz0:Nat) (es0:List AV),bS id sz es (.ro sz0 es0)=(.ro sz0 es0)) ∧
 (∀(x:AV),bS id sz es (.aA x)=(.aA x)) ∧
 (∀(i o n:Nat),bS id sz es (.sl i o n)=jh (i==id) (.ro sz (aI es o n)) (.sl i o n)) ∧
 (∀(i j f:Nat),bS id sz es (.ptr i j f)=cu (i==id) (.ptr i j f)) ∧
 (∀(i f:Nat),bS id sz es (.ab i f)=cu (i==id) (.ab i f)) ∧
 (∀(cs:List AV),bS id sz es (.agg cs)=AV.undef) ∧
 (∀(cs:List AV),bS id sz es (.ai cs)=AV.undef) ∧
 (∀(b:Bool) (x:AV),bS id sz es (.gd b x)=AV.undef) ∧
 (∀(f:Nat) (cs:List AV),bS id sz es (.aK f cs)=AV.undef):=
 ⟨rfl,fun _=>rfl,fun _ _=>rfl,fun _ _=>rfl,fun _ _ _=>rfl,fun _=>rfl,fun _=>rfl,rfl,fun _ _=>rfl,fun _=>rfl,fun _ _ _=>tH,fun _ _ _=>fj,fun _ _=>fj,fun _=>rfl,fun _=>rfl,fun _ _=>rfl,fun _ _=>rfl⟩
theorem PL (id sz:Nat) (es:List AV) :
 (cE id sz es AV.undef=AV.undef) ∧
 (∀(b:Bool),cE id sz es (.bool b)=(.bool b)) ∧
 (∀(k:IntKind) (n:Int),cE id sz es (.int k n)=(.int k n)) ∧
 (∀(k:FloatKind) (n:Nat),cE id sz es (.fl k n)=(.fl k n)) ∧
 (∀(k:FloatKind) (a b:Nat),cE id sz es (.cx k a b)=(.cx k a b)) ∧
 (∀(l:List UInt8),cE id sz es (.str l)=(.str l)) ∧
 (∀(x:Value),cE id sz es (.lit x)=(.lit x)) ∧
 (cE id sz es AV.aq=AV.aq) ∧
 (∀(sz0:Nat) (es0:List AV),cE id sz es (.ro sz0 es0)=(.ro sz0 es0)) ∧
 (∀(x:AV),cE id sz es (.aA x)=(.aA x)) ∧
 (∀(i o n:Nat),cE id sz es (.sl i o n)=jh (i==id) (.ro sz (aI es o n)) (.sl i o n)) ∧
 (∀(i j f:Nat),cE id sz es (.ptr i j f)=cu (i==id) (.ptr i j f)) ∧
 (∀(i f:Nat),cE id sz es (.ab i f)=cu (i==id) (.ab i f)) ∧
 (∀(cs:List AV),cE id sz es (.agg cs)=.agg (cs.map (bS id sz es))) ∧
 (∀(cs:List AV),cE id sz es (.ai cs)=AV.undef) ∧
 (∀(b:Bool) (x:AV),cE id sz es (.gd b x)=AV.undef) ∧
 (∀(f:Nat) (cs:List AV),cE id sz es (.aK f cs)=.aK f (cs.map (bS id sz es))):=
 ⟨rfl,fun _=>rfl,fun _ _=>rfl,fun _ _=>rfl,fun _ _ _=>rfl,fun _=>rfl,fun _=>rfl,rfl,fun _ _=>rfl,fun _=>rfl,fun _ _ _=>tH,fun _ _ _=>fj,fun _ _=>fj,fun _=>rfl,fun _=>rfl,fun _ _=>rfl,fun _ _=>rfl⟩
theorem PV (id sz:Nat) (es:List AV) :
 (bH id sz es AV.undef=AV.undef) ∧
 (∀(b:Bool),bH id sz es (.bool b)=(.bool b)) ∧
 (∀(k:IntKind) (n:Int),bH id sz es (.int k n)=(.int k n)) ∧
 (∀(k:FloatKind) (n:Nat),bH id sz es (.fl k n)=(.fl k n)) ∧
 (∀(k:FloatKind) (a b:Nat),bH id sz es (.cx k a b)=(.cx k a b)) ∧
 (∀(l:List UInt8),bH id sz es (.str l)=(.str l)) ∧
 (∀(x:Value),bH id sz es (.lit x)=(.lit x)) ∧
 (bH id sz es AV.aq=AV.aq) ∧
 (∀(sz0:Nat) (es0:List AV),bH id sz es (.ro sz0 es0)=(.ro sz0 es0)) ∧
 (∀(x:AV),bH id sz es (.aA x)=(.aA x)) ∧
 (∀(i o n:Nat),bH id sz es (.sl i o n)=jh (i==id) (.ro sz (aI es o n)) (.sl i o n)) ∧
 (∀(i j f:Nat),bH id sz es (.ptr i j f)=cu (i==id) (.ptr i j f)) ∧
 (∀(i f:Nat),bH id sz es (.ab i f)=cu (i==id) (.ab i f)) ∧
 (∀(cs:List AV),bH id sz es (.agg cs)=.agg (cs.map (bS id sz es))) ∧
 (∀(cs:List AV),bH id sz es (.ai cs)=.ai (cs.map (cE id sz es))) ∧
 (∀(b:Bool) (x:AV),bH id sz es (.gd b x)=.gd b (cE id sz es x)) ∧
 (∀(f:Nat) (cs:List AV),bH id sz es (.aK f cs)=.aK f (cs.map (bS id sz es))):=
 ⟨rfl,fun _=>rfl,fun _ _=>rfl,fun _ _=>rfl,fun _ _ _=>rfl,fun _=>rfl,fun _=>rfl,rfl,fun _ _=>rfl,fun _=>rfl,fun _ _ _=>tH,fun _ _ _=>fj,fun _ _=>fj,fun _=>rfl,fun _=>rfl,fun _ _=>rfl,fun _ _=>rfl⟩
theorem aiB (id id':Nat) :
 (bT id id' AV.undef=AV.undef) ∧
 (∀(b:Bool),bT id id' (.bool b)=(.bool b)) ∧
 (∀(k:IntKind) (n:Int),bT id id' (.int k n)=(.int k n)) ∧
 (∀(k:FloatKind) (n:Nat),bT id id' (.fl k n)=(.fl k n)) ∧
 (∀(k:FloatKind) (a b:Nat),bT id id' (.cx k a b)=(.cx k a b)) ∧
 (∀(l:List UInt8),bT id id' (.str l)=(.str l)) ∧
 (∀(x:Value),bT id id' (.lit x)=(.lit x)) ∧
 (bT id id' AV.aq=AV.aq) ∧
 (∀(sz0:Nat) (es0:List AV),bT id id' (.ro sz0 es0)=(.ro sz0 es0)) ∧
 (∀(x:AV),bT id id' (.aA x)=(.aA x)) ∧
 (∀(i o n:Nat),bT id id' (.sl i o n)=.sl (rn id id' i) o n) ∧
 (∀(i j f:Nat),bT id id' (.ptr i j f)=.ptr (rn id id' i) j f) ∧
 (∀(i f:Nat),bT id id' (.ab i f)=.ab (rn id id' i) f) ∧
 (∀(cs:List AV),bT id id' (.agg cs)=AV.undef) ∧
 (∀(cs:List AV),bT id id' (.ai cs)=AV.undef) ∧
 (∀(b:Bool) (x:AV),bT id id' (.gd b x)=AV.undef) ∧
 (∀(f:Nat) (cs:List AV),bT id id' (.aK f cs)=AV.undef):=
 ⟨rfl,fun _=>rfl,fun _ _=>rfl,fun _ _=>rfl,fun _ _ _=>rfl,fun _=>rfl,fun _=>rfl,rfl,fun _ _=>rfl,fun _=>rfl,fun _ _ _=>rfl,fun _ _ _=>rfl,fun _ _=>rfl,fun _=>rfl,fun _=>rfl,fun _ _=>rfl,fun _ _=>rfl⟩
theorem aiA (id id':Nat) :
 (cC id id' AV.undef=AV.undef) ∧
 (∀(b:Bool),cC id id' (.bool b)=(.bool b)) ∧
 (∀(k:IntKind) (n:Int),cC id id' (.int k n)=(.int k n)) ∧
 (∀(k:FloatKind) (n:Nat),cC id id' (.fl k n)=(.fl k n)) ∧
 (∀(k:FloatKind) (a b:Nat),cC id id' (.cx k a b)=(.cx k a b)) ∧
 (∀(l:List UInt8),cC id id' (.str l)=(.str l)) ∧
 (∀(x:Value),cC id id' (.lit x)=(.lit x)) ∧
 (cC id id' AV.aq=AV.aq) ∧
 (∀(sz0:Nat) (es0:List AV),cC id id' (.ro sz0 es0)=(.ro sz0 es0)) ∧
 (∀(x:AV),cC id id' (.aA x)=(.aA x)) ∧
 (∀(i o n:Nat),cC id id' (.sl i o n)=.sl (rn id id' i) o n) ∧
 (∀(i j f:Nat),cC id id' (.ptr i j f)=.ptr (rn id id' i) j f) ∧
 (∀(i f:Nat),cC id id' (.ab i f)=.ab (rn id id' i) f) ∧
 (∀(cs:List AV),cC id id' (.agg cs)=.agg (cs.map (bT id id'))) ∧
 (∀(cs:List AV),cC id id' (.ai cs)=AV.undef) ∧
 (∀(b:Bool) (x:AV),cC id id' (.gd b x)=AV.undef) ∧
 (∀(f:Nat) (cs:List AV),cC id id' (.aK f cs)=.aK f (cs.map (bT id id'))):=
 ⟨rfl,fun _=>rfl,fun _ _=>rfl,fun _ _=>rfl,fun _ _ _=>rfl,fun _=>rfl,fun _=>rfl,rfl,fun _ _=>rfl,fun _=>rfl,fun _ _ _=>rfl,fun _ _ _=>rfl,fun _ _=>rfl,fun _=>rfl,fun _=>rfl,fun _ _=>rfl,fun _ _=>rfl⟩
theorem aiF (id id':Nat) :
 (dk id id' AV.undef=AV.undef) ∧
 (∀(b:Bool),dk id id' (.bool b)=(.bool b)) ∧
 (∀(k:IntKind) (n:Int),dk id id' (.int k n)=(.int k n)) ∧
 (∀(k:FloatKind) (n:Nat),dk id id' (.fl k n)=(.fl k n)) ∧
 (∀(k:FloatKind) (a b:Nat),dk id id' (.cx k a b)=(.cx k a b)) ∧
 (∀(l:List UInt8),dk id id' (.str l)=(.str l)) ∧
 (∀(x:Value),dk id id' (.lit x)=(.lit x)) ∧
 (dk id id' AV.aq=AV.aq) ∧
 (∀(sz0:Nat) (es0:List AV),dk id id' (.ro sz0 es0)=(.ro sz0 es0)) ∧
 (∀(x:AV),dk id id' (.aA x)=(.aA x)) ∧
 (∀(i o n:Nat),dk id id' (.sl i o n)=.sl (rn id id' i) o n) ∧
 (∀(i j f:Nat),dk id id' (.ptr i j f)=.ptr (rn id id' i) j f) ∧
 (∀(i f:Nat),dk id id' (.ab i f)=.ab (rn id id' i) f) ∧
 (∀(cs:List AV),dk id id' (.agg cs)=.agg (cs.map (bT id id'))) ∧
 (∀(cs:List AV),dk id id' (.ai cs)=.ai (cs.map (cC id id'))) ∧
 (∀(b:Bool) (x:AV),dk id id' (.gd b x)=.gd b (cC id id' x)) ∧
 (∀(f:Nat) (cs:List AV),dk id id' (.aK f cs)=.aK f (cs.map (bT id id'))):=
 ⟨rfl,fun _=>rfl,fun _ _=>rfl,fun _ _=>rfl,fun _ _ _=>rfl,fun _=>rfl,fun _=>rfl,rfl,fun _ _=>rfl,fun _=>rfl,fun _ _ _=>rfl,fun _ _ _=>rfl,fun _ _=>rfl,fun _=>rfl,fun _=>rfl,fun _ _=>rfl,fun _ _=>rfl⟩
theorem Yd (ids keep:List Nat) :
 (b5 ids keep AV.undef=AV.undef) ∧
 (∀(b:Bool),b5 ids keep (.bool b)=(.bool b)) ∧
 (∀(k:IntKind) (n:Int),b5 ids keep (.int k n)=(.int k n)) ∧
 (∀(k:FloatKind) (n:Nat),b5 ids keep (.fl k n)=(.fl k n)) ∧
 (∀(k:FloatKind) (a b:Nat),b5 ids keep (.cx k a b)=(.cx k a b)) ∧
 (∀(l:List UInt8),b5 ids keep (.str l)=(.str l)) ∧
 (∀(x:Value),b5 ids keep (.lit x)=(.lit x)) ∧
 (b5 ids keep AV.aq=AV.aq) ∧
 (∀(sz0:Nat) (es0:List AV),b5 ids keep (.ro sz0 es0)=(.ro sz0 es0)) ∧
 (∀(x:AV),b5 ids keep (.aA x)=(.aA x)) ∧
 (∀(i o n:Nat),b5 ids keep (.sl i o n)=cu (memN i ids) (.sl i o n)) ∧
 (∀(i j f:Nat),b5 ids keep (.ptr i j f)=cu (memN i ids) (.ptr i j f)) ∧
 (∀(i f:Nat),b5 ids keep (.ab i f)=jh (memN i keep) (.ab i f) (cu (memN i ids) (.ab i f))) ∧
 (∀(cs:List AV),b5 ids keep (.agg cs)=AV.undef) ∧
 (∀(cs:List AV),b5 ids keep (.ai cs)=AV.undef) ∧
 (∀(b:Bool) (x:AV),b5 ids keep (.gd b x)=AV.undef) ∧
 (∀(f:Nat) (cs:List AV),b5 ids keep (.aK f cs)=AV.undef):=
 ⟨rfl,fun _=>rfl,fun _ _=>rfl,fun _ _=>rfl,fun _ _ _=>rfl,fun _=>rfl,fun _=>rfl,rfl,fun _ _=>rfl,fun _=>rfl,fun _ _ _=>jv,fun _ _ _=>jv,fun _ _=>(by rw[←jv,←tI];rfl),fun _=>rfl,fun _=>rfl,fun _ _=>rfl,fun _ _=>rfl⟩
theorem Yc (ids keep:List Nat) :
 (cF ids keep AV.undef=AV.undef) ∧
 (∀(b:Bool),cF ids keep (.bool b)=(.bool b)) ∧
 (∀(k:IntKind) (n:Int),cF ids keep (.int k n)=(.int k n)) ∧
 (∀(k:FloatKind) (n:Nat),cF ids keep (.fl k n)=(.fl k n)) ∧
 (∀(k:FloatKind) (a b:Nat),cF ids keep (.cx k a b)=(.cx k a b)) ∧
 (∀(l:List UInt8),cF ids keep (.str l)=(.str l)) ∧
 (∀(x:Value),cF ids keep (.lit x)=(.lit x)) ∧
 (cF ids keep AV.aq=AV.aq) ∧
 (∀(sz0:Nat) (es0:List AV),cF ids keep (.ro sz0 es0)=(.ro sz0 es0)) ∧
 (∀(x:AV),cF ids keep (.aA x)=(.aA x)) ∧
 (∀(i o n:Nat),cF ids keep (.sl i o n)=cu (memN i ids) (.sl i o n)) ∧
 (∀(i j f:Nat),cF ids keep (.ptr i j f)=cu (memN i ids) (.ptr i j f)) ∧
 (∀(i f:Nat),cF ids keep (.ab i f)=jh (memN i keep) (.ab i f) (cu (memN i ids) (.ab i f))) ∧
 (∀(cs:List AV),cF ids keep (.agg cs)=.agg (cs.map (b5 ids keep))) ∧
 (∀(cs:List AV),cF ids keep (.ai cs)=AV.undef) ∧
 (∀(b:Bool) (x:AV),cF ids keep (.gd b x)=AV.undef) ∧
 (∀(f:Nat) (cs:List AV),cF ids keep (.aK f cs)=.aK f (cs.map (b5 ids keep))):=
 ⟨rfl,fun _=>rfl,fun _ _=>rfl,fun _ _=>rfl,fun _ _ _=>rfl,fun _=>rfl,fun _=>rfl,rfl,fun _ _=>rfl,fun _=>rfl,fun _ _ _=>jv,fun _ _ _=>jv,fun _ _=>(by rw[←jv,←tI];rfl),fun _=>rfl,fun _=>rfl,fun _ _=>rfl,fun _ _=>rfl⟩
theorem Ya (ids keep:List Nat) :
 (kI ids keep AV.undef=AV.undef) ∧
 (∀(b:Bool),kI ids keep (.bool b)=(.bool b)) ∧
 (∀(k:IntKind) (n:Int),kI ids keep (.int k n)=(.int k n)) ∧
 (∀(k:FloatKind) (n:Nat),kI ids keep (.fl k n)=(.fl k n)) ∧
 (∀(k:FloatKind) (a b:Nat),kI ids keep (.cx k a b)=(.cx k a b)) ∧
 (∀(l:List UInt8),kI ids keep (.str l)=(.str l)) ∧
 (∀(x:Value),kI ids keep (.lit x)=(.lit x)) ∧
 (kI ids keep AV.aq=AV.aq) ∧
 (∀(sz0:Nat) (es0:List AV),kI ids keep (.ro sz0 es0)=(.ro sz0 es0)) ∧
 (∀(x:AV),kI ids keep (.aA x)=(.aA x)) ∧
 (∀(i o n:Nat),kI ids keep (.sl i o n)=cu (memN i ids) (.sl i o n)) ∧
 (∀(i j f:Nat),kI ids keep (.ptr i j f)=cu (memN i ids) (.ptr i j f)) ∧
 (∀(i f:Nat),kI ids keep (.ab i f)=jh (memN i keep) (.ab i f) (cu (memN i ids) (.ab i f))) ∧
 (∀(cs:List AV),kI ids keep (.agg cs)=.agg (cs.map (b5 ids keep))) ∧
 (∀(cs:List AV),kI ids keep (.ai cs)=.ai (cs.map (cF ids keep))) ∧
 (∀(b:Bool) (x:AV),kI ids keep (.gd b x)=.gd b (cF ids keep x)) ∧
 (∀(f:Nat) (cs:List AV),kI ids keep (.aK f cs)=.aK f (cs.map (b5 ids keep))):=
 ⟨rfl,fun _=>rfl,fun _ _=>rfl,fun _ _=>rfl,fun _ _ _=>rfl,fun _=>rfl,fun _=>rfl,rfl,fun _ _=>rfl,fun _=>rfl,fun _ _ _=>jv,fun _ _ _=>jv,fun _ _=>(by rw[←jv,←tI];rfl),fun _=>rfl,fun _=>rfl,fun _ _=>rfl,fun _ _=>rfl⟩
theorem HX (h:HP) :
 (borrowC h AV.undef=AV.undef) ∧
 (∀(b:Bool),borrowC h (.bool b)=(.bool b)) ∧
 (∀(k:IntKind) (n:Int),borrowC h (.int k n)=(.int k n)) ∧
 (∀(k:FloatKind) (n:Nat),borrowC h (.fl k n)=(.fl k n)) ∧
 (∀(k:FloatKind) (a b:Nat),borrowC h (.cx k a b)=(.cx k a b)) ∧
 (∀(l:List UInt8),borrowC h (.str l)=(.str l)) ∧
 (∀(x:Value),borrowC h (.lit x)=(.lit x)) ∧
 (borrowC h AV.aq=AV.aq) ∧
 (∀(sz0:Nat) (es0:List AV),borrowC h (.ro sz0 es0)=(.ro sz0 es0)) ∧
 (∀(x:AV),borrowC h (.aA x)=(.aA x)) ∧
 (∀(i o n:Nat),borrowC h (.sl i o n)=borSl (hget h i) o n) ∧
 (∀(i j f:Nat),borrowC h (.ptr i j f)=AV.undef) ∧
 (∀(i f:Nat),borrowC h (.ab i f)=AV.undef) ∧
 (∀(cs:List AV),borrowC h (.agg cs)=AV.undef) ∧
 (∀(cs:List AV),borrowC h (.ai cs)=AV.undef) ∧
 (∀(b:Bool) (x:AV),borrowC h (.gd b x)=AV.undef) ∧
 (∀(f:Nat) (cs:List AV),borrowC h (.aK f cs)=AV.undef):=
 ⟨rfl,fun _=>rfl,fun _ _=>rfl,fun _ _=>rfl,fun _ _ _=>rfl,fun _=>rfl,fun _=>rfl,rfl,fun _ _=>rfl,fun _=>rfl,fun _ _ _=>(by simp only[borrowC,borSl];split<;>simp_all),fun _ _ _=>rfl,fun _ _=>rfl,fun _=>rfl,fun _=>rfl,fun _ _=>rfl,fun _ _=>rfl⟩
theorem HY (h:HP) :
 (borrow h AV.undef=AV.undef) ∧
 (∀(b:Bool),borrow h (.bool b)=(.bool b)) ∧
 (∀(k:IntKind) (n:Int),borrow h (.int k n)=(.int k n)) ∧
 (∀(k:FloatKind) (n:Nat),borrow h (.fl k n)=(.fl k n)) ∧
 (∀(k:FloatKind) (a b:Nat),borrow h (.cx k a b)=(.cx k a b)) ∧
 (∀(l:List UInt8),borrow h (.str l)=(.str l)) ∧
 (∀(x:Value),borrow h (.lit x)=(.lit x)) ∧
 (borrow h AV.aq=AV.aq) ∧
 (∀(sz0:Nat) (es0:List AV),borrow h (.ro sz0 es0)=(.ro sz0 es0)) ∧
 (∀(x:AV),borrow h (.aA x)=(.aA x)) ∧
 (∀(i o n:Nat),borrow h (.sl i o n)=borSl (hget h i) o n) ∧
 (∀(i j f:Nat),borrow h (.ptr i j f)=AV.undef) ∧
 (∀(i f:Nat),borrow h (.ab i f)=AV.undef) ∧
 (∀(cs:List AV),borrow h (.agg cs)=.agg (cs.map (borrowC h))) ∧
 (∀(cs:List AV),borrow h (.ai cs)=AV.undef) ∧
 (∀(b:Bool) (x:AV),borrow h (.gd b x)=AV.undef) ∧
 (∀(f:Nat) (cs:List AV),borrow h (.aK f cs)=AV.undef):=
 ⟨rfl,fun _=>rfl,fun _ _=>rfl,fun _ _=>rfl,fun _ _ _=>rfl,fun _=>rfl,fun _=>rfl,rfl,fun _ _=>rfl,fun _=>rfl,fun _ _ _=>(by simp only[borrow,borrowC,borSl];split<;>simp_all),fun _ _ _=>rfl,fun _ _=>rfl,fun _=>rfl,fun _=>rfl,fun _ _=>rfl,fun _ _=>rfl⟩
theorem GS (h0 h:HP) :
 (bcell h0 h AV.undef=AV.undef) ∧
 (∀(b:Bool),bcell h0 h (.bool b)=(.bool b)) ∧
 (∀(k:IntKind) (n:Int),bcell h0 h (.int k n)=(.int k n)) ∧
 (∀(k:FloatKind) (n:Nat),bcell h0 h (.fl k n)=(.fl k n)) ∧
 (∀(k:FloatKind) (a b:Nat),bcell h0 h (.cx k a b)=(.cx k a b)) ∧
 (∀(l:List UInt8),bcell h0 h (.str l)=(.str l)) ∧
 (∀(x:Value),bcell h0 h (.lit x)=(.lit x)) ∧
 (bcell h0 h AV.aq=AV.aq) ∧
 (∀(sz0:Nat) (es0:List AV),bcell h0 h (.ro sz0 es0)=(.ro sz0 es0)) ∧
 (∀(x:AV),bcell h0 h (.aA x)=(.aA x)) ∧
 (∀(i o n:Nat),bcell h0 h (.sl i o n)=keepO (hget h0 i) AV.undef (borSl (hget h i) o n)) ∧
 (∀(i j f:Nat),bcell h0 h (.ptr i j f)=AV.undef) ∧
 (∀(i f:Nat),bcell h0 h (.ab i f)=AV.undef) ∧
 (∀(cs:List AV),bcell h0 h (.agg cs)=AV.undef) ∧
 (∀(cs:List AV),bcell h0 h (.ai cs)=AV.undef) ∧
 (∀(b:Bool) (x:AV),bcell h0 h (.gd b x)=AV.undef) ∧
 (∀(f:Nat) (cs:List AV),bcell h0 h (.aK f cs)=AV.undef):=
 ⟨rfl,fun _=>rfl,fun _ _=>rfl,fun _ _=>rfl,fun _ _ _=>rfl,fun _=>rfl,fun _=>rfl,rfl,fun _ _=>rfl,fun _=>rfl,fun _ _ _=>(by simp only[bcell,borrowC,borSl,keepO];split<;>(try split)<;>simp_all),fun _ _ _=>rfl,fun _ _=>rfl,fun _=>rfl,fun _=>rfl,fun _ _=>rfl,fun _ _=>rfl⟩
theorem HQ (h0 h:HP) :
 (borC h0 h AV.undef=AV.undef) ∧
 (∀(b:Bool),borC h0 h (.bool b)=(.bool b)) ∧
 (∀(k:IntKind) (n:Int),borC h0 h (.int k n)=(.int k n)) ∧
 (∀(k:FloatKind) (n:Nat),borC h0 h (.fl k n)=(.fl k n)) ∧
 (∀(k:FloatKind) (a b:Nat),borC h0 h (.cx k a b)=(.cx k a b)) ∧
 (∀(l:List UInt8),borC h0 h (.str l)=(.str l)) ∧
 (∀(x:Value),borC h0 h (.lit x)=(.lit x)) ∧
 (borC h0 h AV.aq=AV.aq) ∧
 (∀(sz0:Nat) (es0:List AV),borC h0 h (.ro sz0 es0)=(.ro sz0 es0)) ∧
 (∀(x:AV),borC h0 h (.aA x)=(.aA x)) ∧
 (∀(i o n:Nat),borC h0 h (.sl i o n)=keepO (hget h0 i) (.sl i o n) (borSl (hget h i) o n)) ∧
 (∀(i j f:Nat),borC h0 h (.ptr i j f)=keepO (hget h0 i) (.ptr i j f) AV.undef) ∧
 (∀(i f:Nat),borC h0 h (.ab i f)=keepO (hget h0 i) (.ab i f) (borV h0 h (hget h i) f)) ∧
 (∀(cs:List AV),borC h0 h (.agg cs)=AV.undef) ∧
 (∀(cs:List AV),borC h0 h (.ai cs)=AV.undef) ∧
 (∀(b:Bool) (x:AV),borC h0 h (.gd b x)=AV.undef) ∧
 (∀(f:Nat) (cs:List AV),borC h0 h (.aK f cs)=AV.undef):=
 ⟨rfl,fun _=>rfl,fun _ _=>rfl,fun _ _=>rfl,fun _ _ _=>rfl,fun _=>rfl,fun _=>rfl,rfl,fun _ _=>rfl,fun _=>rfl,fun _ _ _=>(by simp only[borC,borrowC,borSl,keepO];split<;>(try split)<;>simp_all),fun _ _ _=>(by simp only[borC,keepO];rfl),fun _ _=>(by simp only[borC,borV,keepO];rfl),fun _=>rfl,fun _=>rfl,fun _ _=>rfl,fun _ _=>rfl⟩
theorem HV (h0 h:HP) :
 (bor h0 h AV.undef=AV.undef) ∧
 (∀(b:Bool),bor h0 h (.bool b)=(.bool b)) ∧
 (∀(k:IntKind) (n:Int),bor h0 h (.int k n)=(.int k n)) ∧
 (∀(k:FloatKind) (n:Nat),bor h0 h (.fl k n)=(.fl k n)) ∧
 (∀(k:FloatKind) (a b:Nat),bor h0 h (.cx k a b)=(.cx k a b)) ∧
 (∀(l:List UInt8),bor h0 h (.str l)=(.str l)) ∧
 (∀(x:Value),bor h0 h (.lit x)=(.lit x)) ∧
 (bor h0 h AV.aq=AV.aq) ∧
 (∀(sz0:Nat) (es0:List AV),bor h0 h (.ro sz0 es0)=(.ro sz0 es0)) ∧
 (∀(x:AV),bor h0 h (.aA x)=(.aA x)) ∧
 (∀(i o n:Nat),bor h0 h (.sl i o n)=keepO (hget h0 i) (.sl i o n) (borSl (hget h i) o n)) ∧
 (∀(i j f:Nat),bor h0 h (.ptr i j f)=keepO (hget h0 i) (.ptr i j f) AV.undef) ∧
 (∀(i f:Nat),bor h0 h (.ab i f)=keepO (hget h0 i) (.ab i f) (borV h0 h (hget h i) f)) ∧
 (∀(cs:List AV),bor h0 h (.agg cs)=.agg (cs.map (borC h0 h))) ∧
 (∀(cs:List AV),bor h0 h (.ai cs)=AV.undef) ∧
 (∀(b:Bool) (x:AV),bor h0 h (.gd b x)=AV.undef) ∧
 (∀(f:Nat) (cs:List AV),bor h0 h (.aK f cs)=AV.undef):=
 ⟨rfl,fun _=>rfl,fun _ _=>rfl,fun _ _=>rfl,fun _ _ _=>rfl,fun _=>rfl,fun _=>rfl,rfl,fun _ _=>rfl,fun _=>rfl,fun _ _ _=>(by simp only[bor,borC,borrowC,borSl,keepO];split<;>(try split)<;>simp_all),fun _ _ _=>(by simp only[bor,borC,keepO];rfl),fun _ _=>(by simp only[bor,borC,borV,keepO];rfl),fun _=>rfl,fun _=>rfl,fun _ _=>rfl,fun _ _=>rfl⟩
theorem acb :
 (noRefC  AV.undef=true) ∧
 (∀(b:Bool),noRefC  (.bool b)=true) ∧
 (∀(k:IntKind) (n:Int),noRefC  (.int k n)=true) ∧
 (∀(k:FloatKind) (n:Nat),noRefC  (.fl k n)=true) ∧
 (∀(k:FloatKind) (a b:Nat),noRefC  (.cx k a b)=true) ∧
 (∀(l:List UInt8),noRefC  (.str l)=true) ∧
 (∀(x:Value),noRefC  (.lit x)=true) ∧
 (noRefC  AV.aq=true) ∧
 (∀(sz0:Nat) (es0:List AV),noRefC  (.ro sz0 es0)=true) ∧
 (∀(x:AV),noRefC  (.aA x)=true) ∧
 (∀(i o n:Nat),noRefC  (.sl i o n)=false) ∧
 (∀(i j f:Nat),noRefC  (.ptr i j f)=false) ∧
 (∀(i f:Nat),noRefC  (.ab i f)=false) ∧
 (∀(cs:List AV),noRefC  (.agg cs)=false) ∧
 (∀(cs:List AV),noRefC  (.ai cs)=false) ∧
 (∀(b:Bool) (x:AV),noRefC  (.gd b x)=false) ∧
 (∀(f:Nat) (cs:List AV),noRefC  (.aK f cs)=false):=
 ⟨rfl,fun _=>rfl,fun _ _=>rfl,fun _ _=>rfl,fun _ _ _=>rfl,fun _=>rfl,fun _=>rfl,rfl,fun _ _=>rfl,fun _=>rfl,fun _ _ _=>rfl,fun _ _ _=>rfl,fun _ _=>rfl,fun _=>rfl,fun _=>rfl,fun _ _=>rfl,fun _ _=>rfl⟩
theorem OJ :
 (flC  AV.undef=true) ∧
 (∀(b:Bool),flC  (.bool b)=true) ∧
 (∀(k:IntKind) (n:Int),flC  (.int k n)=true) ∧
 (∀(k:FloatKind) (n:Nat),flC  (.fl k n)=true) ∧
 (∀(k:FloatKind) (a b:Nat),flC  (.cx k a b)=true) ∧
 (∀(l:List UInt8),flC  (.str l)=true) ∧
 (∀(x:Value),flC  (.lit x)=true) ∧
 (flC  AV.aq=true) ∧
 (∀(sz0:Nat) (es0:List AV),flC  (.ro sz0 es0)=false) ∧
 (∀(x:AV),flC  (.aA x)=false) ∧
 (∀(i o n:Nat),flC  (.sl i o n)=false) ∧
 (∀(i j f:Nat),flC  (.ptr i j f)=false) ∧
 (∀(i f:Nat),flC  (.ab i f)=false) ∧
 (∀(cs:List AV),flC  (.agg cs)=false) ∧
 (∀(cs:List AV),flC  (.ai cs)=false) ∧
 (∀(b:Bool) (x:AV),flC  (.gd b x)=false) ∧
 (∀(f:Nat) (cs:List AV),flC  (.aK f cs)=false):=
 ⟨rfl,fun _=>rfl,fun _ _=>rfl,fun _ _=>rfl,fun _ _ _=>rfl,fun _=>rfl,fun _=>rfl,rfl,fun _ _=>rfl,fun _=>rfl,fun _ _ _=>rfl,fun _ _ _=>rfl,fun _ _=>rfl,fun _=>rfl,fun _=>rfl,fun _ _=>rfl,fun _ _=>rfl⟩
theorem Ws :
 (isCell  AV.undef=false) ∧
 (∀(b:Bool),isCell  (.bool b)=true) ∧
 (∀(k:IntKind) (n:Int),isCell  (.int k n)=true) ∧
 (∀(k:FloatKind) (n:Nat),isCell  (.fl k n)=true) ∧
 (∀(k:FloatKind) (a b:Nat),isCell  (.cx k a b)=true) ∧
 (∀(l:List UInt8),isCell  (.str l)=true) ∧
 (∀(x:Value),isCell  (.lit x)=x.oneCell') ∧
 (isCell  AV.aq=true) ∧
 (∀(sz0:Nat) (es0:List AV),isCell  (.ro sz0 es0)=true) ∧
 (∀(x:AV),isCell  (.aA x)=true) ∧
 (∀(i o n:Nat),isCell  (.sl i o n)=true) ∧
 (∀(i j f:Nat),isCell  (.ptr i j f)=true) ∧
 (∀(i f:Nat),isCell  (.ab i f)=true) ∧
 (∀(cs:List AV),isCell  (.agg cs)=false) ∧
 (∀(cs:List AV),isCell  (.ai cs)=false) ∧
 (∀(b:Bool) (x:AV),isCell  (.gd b x)=false) ∧
 (∀(f:Nat) (cs:List AV),isCell  (.aK f cs)=false):=
 ⟨rfl,fun _=>rfl,fun _ _=>rfl,fun _ _=>rfl,fun _ _ _=>rfl,fun _=>rfl,fun _=>rfl,rfl,fun _ _=>rfl,fun _=>rfl,fun _ _ _=>rfl,fun _ _ _=>rfl,fun _ _=>rfl,fun _=>rfl,fun _=>rfl,fun _ _=>rfl,fun _ _=>rfl⟩
theorem ace :
 (bA  AV.undef=true) ∧
 (∀(b:Bool),bA  (.bool b)=true) ∧
 (∀(k:IntKind) (n:Int),bA  (.int k n)=true) ∧
 (∀(k:FloatKind) (n:Nat),bA  (.fl k n)=true) ∧
 (∀(k:FloatKind) (a b:Nat),bA  (.cx k a b)=true) ∧
 (∀(l:List UInt8),bA  (.str l)=true) ∧
 (∀(x:Value),bA  (.lit x)=true) ∧
 (bA  AV.aq=true) ∧
 (∀(sz0:Nat) (es0:List AV),bA  (.ro sz0 es0)=true) ∧
 (∀(x:AV),bA  (.aA x)=true) ∧
 (∀(i o n:Nat),bA  (.sl i o n)=false) ∧
 (∀(i j f:Nat),bA  (.ptr i j f)=false) ∧
 (∀(i f:Nat),bA  (.ab i f)=false) ∧
 (∀(cs:List AV),bA  (.agg cs)=cs.all noRefC) ∧
 (∀(cs:List AV),bA  (.ai cs)=false) ∧
 (∀(b:Bool) (x:AV),bA  (.gd b x)=false) ∧
 (∀(f:Nat) (cs:List AV),bA  (.aK f cs)=false):=
 ⟨rfl,fun _=>rfl,fun _ _=>rfl,fun _ _=>rfl,fun _ _ _=>rfl,fun _=>rfl,fun _=>rfl,rfl,fun _ _=>rfl,fun _=>rfl,fun _ _ _=>rfl,fun _ _ _=>rfl,fun _ _=>rfl,fun _=>rfl,fun _=>rfl,fun _ _=>rfl,fun _ _=>rfl⟩
theorem acd :
 (dv  AV.undef=true) ∧
 (∀(b:Bool),dv  (.bool b)=true) ∧
 (∀(k:IntKind) (n:Int),dv  (.int k n)=true) ∧
 (∀(k:FloatKind) (n:Nat),dv  (.fl k n)=true) ∧
 (∀(k:FloatKind) (a b:Nat),dv  (.cx k a b)=true) ∧
 (∀(l:List UInt8),dv  (.str l)=true) ∧
 (∀(x:Value),dv  (.lit x)=true) ∧
 (dv  AV.aq=true) ∧
 (∀(sz0:Nat) (es0:List AV),dv  (.ro sz0 es0)=true) ∧
 (∀(x:AV),dv  (.aA x)=true) ∧
 (∀(i o n:Nat),dv  (.sl i o n)=false) ∧
 (∀(i j f:Nat),dv  (.ptr i j f)=false) ∧
 (∀(i f:Nat),dv  (.ab i f)=false) ∧
 (∀(cs:List AV),dv  (.agg cs)=cs.all noRefC) ∧
 (∀(cs:List AV),dv  (.ai cs)=cs.all bA) ∧
 (∀(b:Bool) (x:AV),dv  (.gd b x)=false) ∧
 (∀(f:Nat) (cs:List AV),dv  (.aK f cs)=false):=
 ⟨rfl,fun _=>rfl,fun _ _=>rfl,fun _ _=>rfl,fun _ _ _=>rfl,fun _=>rfl,fun _=>rfl,rfl,fun _ _=>rfl,fun _=>rfl,fun _ _ _=>rfl,fun _ _ _=>rfl,fun _ _=>rfl,fun _=>rfl,fun _=>rfl,fun _ _=>rfl,fun _ _=>rfl⟩
theorem OH :
 (flA  AV.undef=true) ∧
 (∀(b:Bool),flA  (.bool b)=true) ∧
 (∀(k:IntKind) (n:Int),flA  (.int k n)=true) ∧
 (∀(k:FloatKind) (n:Nat),flA  (.fl k n)=true) ∧
 (∀(k:FloatKind) (a b:Nat),flA  (.cx k a b)=true) ∧
 (∀(l:List UInt8),flA  (.str l)=true) ∧
 (∀(x:Value),flA  (.lit x)=true) ∧
 (flA  AV.aq=true) ∧
 (∀(sz0:Nat) (es0:List AV),flA  (.ro sz0 es0)=false) ∧
 (∀(x:AV),flA  (.aA x)=false) ∧
 (∀(i o n:Nat),flA  (.sl i o n)=false) ∧
 (∀(i j f:Nat),flA  (.ptr i j f)=false) ∧
 (∀(i f:Nat),flA  (.ab i f)=false) ∧
 (∀(cs:List AV),flA  (.agg cs)=cs.all flC) ∧
 (∀(cs:List AV),flA  (.ai cs)=false) ∧
 (∀(b:Bool) (x:AV),flA  (.gd b x)=false) ∧
 (∀(f:Nat) (cs:List AV),flA  (.aK f cs)=false):=
 ⟨rfl,fun _=>rfl,fun _ _=>rfl,fun _ _=>rfl,fun _ _ _=>rfl,fun _=>rfl,fun _=>rfl,rfl,fun _ _=>rfl,fun _=>rfl,fun _ _ _=>rfl,fun _ _ _=>rfl,fun _ _=>rfl,fun _=>rfl,fun _=>rfl,fun _ _=>rfl,fun _ _=>rfl⟩
theorem OP :
 (dp  AV.undef=true) ∧
 (∀(b:Bool),dp  (.bool b)=true) ∧
 (∀(k:IntKind) (n:Int),dp  (.int k n)=true) ∧
 (∀(k:FloatKind) (n:Nat),dp  (.fl k n)=true) ∧
 (∀(k:FloatKind) (a b:Nat),dp  (.cx k a b)=true) ∧
 (∀(l:List UInt8),dp  (.str l)=true) ∧
 (∀(x:Value),dp  (.lit x)=true) ∧
 (dp  AV.aq=true) ∧
 (∀(sz0:Nat) (es0:List AV),dp  (.ro sz0 es0)=false) ∧
 (∀(x:AV),dp  (.aA x)=false) ∧
 (∀(i o n:Nat),dp  (.sl i o n)=false) ∧
 (∀(i j f:Nat),dp  (.ptr i j f)=false) ∧
 (∀(i f:Nat),dp  (.ab i f)=false) ∧
 (∀(cs:List AV),dp  (.agg cs)=cs.all flC) ∧
 (∀(cs:List AV),dp  (.ai cs)=cs.all flA) ∧
 (∀(b:Bool) (x:AV),dp  (.gd b x)=false) ∧
 (∀(f:Nat) (cs:List AV),dp  (.aK f cs)=false):=
 ⟨rfl,fun _=>rfl,fun _ _=>rfl,fun _ _=>rfl,fun _ _ _=>rfl,fun _=>rfl,fun _=>rfl,rfl,fun _ _=>rfl,fun _=>rfl,fun _ _ _=>rfl,fun _ _ _=>rfl,fun _ _=>rfl,fun _=>rfl,fun _=>rfl,fun _ _=>rfl,fun _ _=>rfl⟩
theorem Pb (h:HP) :
 (cv h AV.undef=true) ∧
 (∀(b:Bool),cv h (.bool b)=true) ∧
 (∀(k:IntKind) (n:Int),cv h (.int k n)=true) ∧
 (∀(k:FloatKind) (n:Nat),cv h (.fl k n)=true) ∧
 (∀(k:FloatKind) (a b:Nat),cv h (.cx k a b)=true) ∧
 (∀(l:List UInt8),cv h (.str l)=true) ∧
 (∀(x:Value),cv h (.lit x)=true) ∧
 (cv h AV.aq=true) ∧
 (∀(sz0:Nat) (es0:List AV),cv h (.ro sz0 es0)=false) ∧
 (∀(x:AV),cv h (.aA x)=false) ∧
 (∀(i o n:Nat),cv h (.sl i o n)=(hget h i).isSome) ∧
 (∀(i j f:Nat),cv h (.ptr i j f)=(hget h i).isSome) ∧
 (∀(i f:Nat),cv h (.ab i f)=(hget h i).isSome) ∧
 (∀(cs:List AV),cv h (.agg cs)=false) ∧
 (∀(cs:List AV),cv h (.ai cs)=false) ∧
 (∀(b:Bool) (x:AV),cv h (.gd b x)=false) ∧
 (∀(f:Nat) (cs:List AV),cv h (.aK f cs)=false):=
 ⟨rfl,fun _=>rfl,fun _ _=>rfl,fun _ _=>rfl,fun _ _ _=>rfl,fun _=>rfl,fun _=>rfl,rfl,fun _ _=>rfl,fun _=>rfl,fun _ _ _=>rfl,fun _ _ _=>rfl,fun _ _=>rfl,fun _=>rfl,fun _=>rfl,fun _ _=>rfl,fun _ _=>rfl⟩
theorem Pa (h:HP) :
 (cU h AV.undef=true) ∧
 (∀(b:Bool),cU h (.bool b)=true) ∧
 (∀(k:IntKind) (n:Int),cU h (.int k n)=true) ∧
 (∀(k:FloatKind) (n:Nat),cU h (.fl k n)=true) ∧
 (∀(k:FloatKind) (a b:Nat),cU h (.cx k a b)=true) ∧
 (∀(l:List UInt8),cU h (.str l)=true) ∧
 (∀(x:Value),cU h (.lit x)=true) ∧
 (cU h AV.aq=true) ∧
 (∀(sz0:Nat) (es0:List AV),cU h (.ro sz0 es0)=false) ∧
 (∀(x:AV),cU h (.aA x)=false) ∧
 (∀(i o n:Nat),cU h (.sl i o n)=(hget h i).isSome) ∧
 (∀(i j f:Nat),cU h (.ptr i j f)=(hget h i).isSome) ∧
 (∀(i f:Nat),cU h (.ab i f)=(hget h i).isSome) ∧
 (∀(cs:List AV),cU h (.agg cs)=cs.all (cv h)) ∧
 (∀(cs:List AV),cU h (.ai cs)=false) ∧
 (∀(b:Bool) (x:AV),cU h (.gd b x)=false) ∧
 (∀(f:Nat) (cs:List AV),cU h (.aK f cs)=false):=
 ⟨rfl,fun _=>rfl,fun _ _=>rfl,fun _ _=>rfl,fun _ _ _=>rfl,fun _=>rfl,fun _=>rfl,rfl,fun _ _=>rfl,fun _=>rfl,fun _ _ _=>rfl,fun _ _ _=>rfl,fun _ _=>rfl,fun _=>rfl,fun _=>rfl,fun _ _=>rfl,fun _ _=>rfl⟩
theorem OL (h:HP) :
 (dM h AV.undef=true) ∧
 (∀(b:Bool),dM h (.bool b)=true) ∧
 (∀(k:IntKind) (n:Int),dM h (.int k n)=true) ∧
 (∀(k:FloatKind) (n:Nat),dM h (.fl k n)=true) ∧
 (∀(k:FloatKind) (a b:Nat),dM h (.cx k a b)=true) ∧
 (∀(l:List UInt8),dM h (.str l)=true) ∧
 (∀(x:Value),dM h (.lit x)=true) ∧
 (dM h AV.aq=true) ∧
 (∀(sz0:Nat) (es0:List AV),dM h (.ro sz0 es0)=false) ∧
 (∀(x:AV),dM h (.aA x)=false) ∧
 (∀(i o n:Nat),dM h (.sl i o n)=(hget h i).isSome) ∧
 (∀(i j f:Nat),dM h (.ptr i j f)=(hget h i).isSome) ∧
 (∀(i f:Nat),dM h (.ab i f)=(hget h i).isSome) ∧
 (∀(cs:List AV),dM h (.agg cs)=cs.all (cv h)) ∧
 (∀(cs:List AV),dM h (.ai cs)=cs.all (cU h)) ∧
 (∀(b:Bool) (x:AV),dM h (.gd b x)=false) ∧
 (∀(f:Nat) (cs:List AV),dM h (.aK f cs)=false):=
 ⟨rfl,fun _=>rfl,fun _ _=>rfl,fun _ _=>rfl,fun _ _ _=>rfl,fun _=>rfl,fun _=>rfl,rfl,fun _ _=>rfl,fun _=>rfl,fun _ _ _=>rfl,fun _ _ _=>rfl,fun _ _=>rfl,fun _=>rfl,fun _=>rfl,fun _ _=>rfl,fun _ _=>rfl⟩
theorem Ul (h:HP) :
 (cw h AV.undef=true) ∧
 (∀(b:Bool),cw h (.bool b)=true) ∧
 (∀(k:IntKind) (n:Int),cw h (.int k n)=true) ∧
 (∀(k:FloatKind) (n:Nat),cw h (.fl k n)=true) ∧
 (∀(k:FloatKind) (a b:Nat),cw h (.cx k a b)=true) ∧
 (∀(l:List UInt8),cw h (.str l)=true) ∧
 (∀(x:Value),cw h (.lit x)=true) ∧
 (cw h AV.aq=true) ∧
 (∀(sz0:Nat) (es0:List AV),cw h (.ro sz0 es0)=true) ∧
 (∀(x:AV),cw h (.aA x)=true) ∧
 (∀(i o n:Nat),cw h (.sl i o n)=(hget h i).isSome) ∧
 (∀(i j f:Nat),cw h (.ptr i j f)=(hget h i).isSome) ∧
 (∀(i f:Nat),cw h (.ab i f)=(hget h i).isSome) ∧
 (∀(cs:List AV),cw h (.agg cs)=false) ∧
 (∀(cs:List AV),cw h (.ai cs)=false) ∧
 (∀(b:Bool) (x:AV),cw h (.gd b x)=false) ∧
 (∀(f:Nat) (cs:List AV),cw h (.aK f cs)=false):=
 ⟨rfl,fun _=>rfl,fun _ _=>rfl,fun _ _=>rfl,fun _ _ _=>rfl,fun _=>rfl,fun _=>rfl,rfl,fun _ _=>rfl,fun _=>rfl,fun _ _ _=>rfl,fun _ _ _=>rfl,fun _ _=>rfl,fun _=>rfl,fun _=>rfl,fun _ _=>rfl,fun _ _=>rfl⟩
theorem Uk (h:HP) :
 (cX h AV.undef=true) ∧
 (∀(b:Bool),cX h (.bool b)=true) ∧
 (∀(k:IntKind) (n:Int),cX h (.int k n)=true) ∧
 (∀(k:FloatKind) (n:Nat),cX h (.fl k n)=true) ∧
 (∀(k:FloatKind) (a b:Nat),cX h (.cx k a b)=true) ∧
 (∀(l:List UInt8),cX h (.str l)=true) ∧
 (∀(x:Value),cX h (.lit x)=true) ∧
 (cX h AV.aq=true) ∧
 (∀(sz0:Nat) (es0:List AV),cX h (.ro sz0 es0)=true) ∧
 (∀(x:AV),cX h (.aA x)=true) ∧
 (∀(i o n:Nat),cX h (.sl i o n)=(hget h i).isSome) ∧
 (∀(i j f:Nat),cX h (.ptr i j f)=(hget h i).isSome) ∧
 (∀(i f:Nat),cX h (.ab i f)=(hget h i).isSome) ∧
 (∀(cs:List AV),cX h (.agg cs)=cs.all (cw h)) ∧
 (∀(cs:List AV),cX h (.ai cs)=false) ∧
 (∀(b:Bool) (x:AV),cX h (.gd b x)=false) ∧
 (∀(f:Nat) (cs:List AV),cX h (.aK f cs)=false):=
 ⟨rfl,fun _=>rfl,fun _ _=>rfl,fun _ _=>rfl,fun _ _ _=>rfl,fun _=>rfl,fun _=>rfl,rfl,fun _ _=>rfl,fun _=>rfl,fun _ _ _=>rfl,fun _ _ _=>rfl,fun _ _=>rfl,fun _=>rfl,fun _=>rfl,fun _ _=>rfl,fun _ _=>rfl⟩
theorem Uo (h:HP) :
 (de h AV.undef=true) ∧
 (∀(b:Bool),de h (.bool b)=true) ∧
 (∀(k:IntKind) (n:Int),de h (.int k n)=true) ∧
 (∀(k:FloatKind) (n:Nat),de h (.fl k n)=true) ∧
 (∀(k:FloatKind) (a b:Nat),de h (.cx k a b)=true) ∧
 (∀(l:List UInt8),de h (.str l)=true) ∧
 (∀(x:Value),de h (.lit x)=true) ∧
 (de h AV.aq=true) ∧
 (∀(sz0:Nat) (es0:List AV),de h (.ro sz0 es0)=true) ∧
 (∀(x:AV),de h (.aA x)=true) ∧
 (∀(i o n:Nat),de h (.sl i o n)=(hget h i).isSome) ∧
 (∀(i j f:Nat),de h (.ptr i j f)=(hget h i).isSome) ∧
 (∀(i f:Nat),de h (.ab i f)=(hget h i).isSome) ∧
 (∀(cs:List AV),de h (.agg cs)=cs.all (cw h)) ∧
 (∀(cs:List AV),de h (.ai cs)=cs.all (cX h)) ∧
 (∀(b:Bool) (x:AV),de h (.gd b x)=false) ∧
 (∀(f:Nat) (cs:List AV),de h (.aK f cs)=false):=
 ⟨rfl,fun _=>rfl,fun _ _=>rfl,fun _ _=>rfl,fun _ _ _=>rfl,fun _=>rfl,fun _=>rfl,rfl,fun _ _=>rfl,fun _=>rfl,fun _ _ _=>rfl,fun _ _ _=>rfl,fun _ _=>rfl,fun _=>rfl,fun _=>rfl,fun _ _=>rfl,fun _ _=>rfl⟩
theorem aoF :
 (stripV  AV.undef=AV.undef) ∧
 (∀(b:Bool),stripV  (.bool b)=(.bool b)) ∧
 (∀(k:IntKind) (n:Int),stripV  (.int k n)=(.int k n)) ∧
 (∀(k:FloatKind) (n:Nat),stripV  (.fl k n)=(.fl k n)) ∧
 (∀(k:FloatKind) (a b:Nat),stripV  (.cx k a b)=(.cx k a b)) ∧
 (∀(l:List UInt8),stripV  (.str l)=(.str l)) ∧
 (∀(x:Value),stripV  (.lit x)=(.lit x)) ∧
 (stripV  AV.aq=AV.aq) ∧
 (∀(sz0:Nat) (es0:List AV),stripV  (.ro sz0 es0)=(.ro sz0 es0)) ∧
 (∀(x:AV),stripV  (.aA x)=(.aA x)) ∧
 (∀(i o n:Nat),stripV  (.sl i o n)=(.sl i o n)) ∧
 (∀(i j f:Nat),stripV  (.ptr i j f)=(.ptr i j f)) ∧
 (∀(i f:Nat),stripV  (.ab i f)=(.ab i f)) ∧
 (∀(cs:List AV),stripV  (.agg cs)=(.agg cs)) ∧
 (∀(cs:List AV),stripV  (.ai cs)=(.ai cs)) ∧
 (∀(b:Bool) (x:AV),stripV  (.gd b x)=x) ∧
 (∀(f:Nat) (cs:List AV),stripV  (.aK f cs)=.aK f cs):=
 ⟨rfl,fun _=>rfl,fun _ _=>rfl,fun _ _=>rfl,fun _ _ _=>rfl,fun _=>rfl,fun _=>rfl,rfl,fun _ _=>rfl,fun _=>rfl,fun _ _ _=>rfl,fun _ _ _=>rfl,fun _ _=>rfl,fun _=>rfl,fun _=>rfl,fun _ _=>rfl,fun _ _=>rfl⟩
theorem aoE (γ:Bool) :
 (aB γ AV.undef=True) ∧
 (∀(b:Bool),aB γ (.bool b)=True) ∧
 (∀(k:IntKind) (n:Int),aB γ (.int k n)=True) ∧
 (∀(k:FloatKind) (n:Nat),aB γ (.fl k n)=True) ∧
 (∀(k:FloatKind) (a b:Nat),aB γ (.cx k a b)=True) ∧
 (∀(l:List UInt8),aB γ (.str l)=True) ∧
 (∀(x:Value),aB γ (.lit x)=True) ∧
 (aB γ AV.aq=True) ∧
 (∀(sz0:Nat) (es0:List AV),aB γ (.ro sz0 es0)=True) ∧
 (∀(x:AV),aB γ (.aA x)=True) ∧
 (∀(i o n:Nat),aB γ (.sl i o n)=True) ∧
 (∀(i j f:Nat),aB γ (.ptr i j f)=True) ∧
 (∀(i f:Nat),aB γ (.ab i f)=True) ∧
 (∀(cs:List AV),aB γ (.agg cs)=True) ∧
 (∀(cs:List AV),aB γ (.ai cs)=True) ∧
 (∀(b:Bool) (x:AV),aB γ (.gd b x)=(γ=true→b=true)) ∧
 (∀(f:Nat) (cs:List AV),aB γ (.aK f cs)=True):=
 ⟨rfl,fun _=>rfl,fun _ _=>rfl,fun _ _=>rfl,fun _ _ _=>rfl,fun _=>rfl,fun _=>rfl,rfl,fun _ _=>rfl,fun _=>rfl,fun _ _ _=>rfl,fun _ _ _=>rfl,fun _ _=>rfl,fun _=>rfl,fun _=>rfl,fun _ _=>rfl,fun _ _=>rfl⟩
theorem NY (st:St):(∀k,ev st (.t k)=(sget st.s k).getD .undef)∧(∀v,ev st (.c v)=v):=⟨fun _=>rfl,fun _=>rfl⟩
theorem ah6 (st:St) (v:AV):(∀d,put st (some d) v=⟨(d,v)::st.s,st.h⟩)∧put st none v=st:=⟨fun _=>rfl,rfl⟩
theorem P9 (w:Bool):(∀β,grd (some (.bool β)) w=some (β==w))∧(∀b β,grd (some (.gd b (.bool β))) w=some (b&&(β==w)))∧grd (some (.gd false .undef)) w=some false:=⟨fun _=>rfl,fun b _=>by cases b<;>rfl,rfl⟩
theorem ab7 (st:St) (d:Nat) (W:aG):bM st d W=⟨killS d st.s,bx (eQ d st.h) d W⟩:=(rfl)
theorem Yz (id:Nat):(∀sz es,j7 id (.arr sz es)=.arr sz es)∧(∀cs,j7 id (.var cs)=.var (cs.map (killC id)))∧(∀kd l,j7 id (.mp kd l)=.mp kd l):=⟨fun _ _=>rfl,fun _=>rfl,fun _ _=>rfl⟩
theorem PU (id sz:Nat) (es:List AV):(∀sz' es',kV id sz es (.arr sz' es')=.arr sz' es')∧(∀cs,kV id sz es (.var cs)=.var (cs.map (bS id sz es)))∧(∀kd l,kV id sz es (.mp kd l)=.mp kd l):=⟨fun _ _=>rfl,fun _=>rfl,fun _ _=>rfl⟩
theorem aiE (id id':Nat):(∀sz es,ki id id' (.arr sz es)=.arr sz es)∧(∀cs,ki id id' (.var cs)=.var (cs.map fun c=>bT id id' (killC id' c)))∧(∀kd l,ki id id' (.mp kd l)=.mp kd l):=⟨fun _ _=>rfl,fun _=>rfl,fun _ _=>rfl⟩
theorem Yb (ids keep:List Nat):(∀sz es,jx ids keep (.arr sz es)=.arr sz es)∧(∀cs,jx ids keep (.var cs)=.var (cs.map (b5 ids keep)))∧(∀kd l,jx ids keep (.mp kd l)=.mp kd l):=⟨fun _ _=>rfl,fun _=>rfl,fun _ _=>rfl⟩
theorem Up (h:HP):(∀sz es,mu h (.arr sz es)=true)∧(∀cs,mu h (.var cs)=cs.all (cw h))∧(∀kd l,mu h (.mp kd l)=true):=⟨fun _ _=>rfl,fun _=>rfl,fun _ _=>rfl⟩
theorem OQ (h:HP):(∀sz es,jX h (.arr sz es)=es.all flA)∧(∀cs,jX h (.var cs)=cs.all (cv h))∧(∀kd (l:List (MK×AV)),jX h (.mp kd l)=l.all fun p=>flA p.2):=⟨fun _ _=>rfl,fun _=>rfl,fun _ _=>rfl⟩
theorem Um (h:HP):ia h []=true∧(∀k W r,ia h ((k,W)::r)=(mu h W&&ia h r)):=⟨rfl,fun _ _ _=>rfl⟩
theorem OK (h:HP):flH h []=true∧(∀k W r,flH h ((k,W)::r)=(jX h W&&flH h r)):=⟨rfl,fun _ _ _=>rfl⟩
theorem abZ:di []=[]∧(∀k W r,di ((k,W)::r)=k::di r):=⟨rfl,fun _ _ _=>rfl⟩
theorem acC (k:Nat):numbered k []=[]∧(∀x r,numbered k (x::r)=(k,x)::numbered (k+1) r):=⟨rfl,fun _ _=>rfl⟩
theorem aiD (id id':Nat):renS id id' []=[]∧(∀k v r,renS id id' ((k,v)::r)=(k,dk id id' (kill id' v))::renS id id' r):=⟨rfl,fun _ _ _=>rfl⟩
theorem aiC (id id':Nat):renH id id' []=[]∧(∀k v r,renH id id' ((k,v)::r)=(rn id id' k,ki id id' v)::renH id id' r):=⟨rfl,fun _ _ _=>rfl⟩
theorem aon (id id':Nat) (st:St):rq id id' st=⟨renS id id' st.s,renH id id' st.h⟩:=(rfl)
theorem aoi (k id sz:Nat) (st:St):u6 k id sz st=⟨(k,.sl id 0 0)::killS id st.s,bx (eQ id st.h) id (.arr sz [])⟩:=(rfl)
theorem aoh (p f id sz:Nat) (cs:List AV) (st:St):u7 p f id sz cs st=⟨killS id st.s,bx (bx (eQ id st.h) id (.arr sz [])) p (.var ((cs.map (killC id)).set f (.sl id 0 0)))⟩:=(rfl)
def kZ (b:Bool) (x y:Option (List AV)):Option (List AV):=match b with
 | true=>x
 | false=>y
def uW (W:Option aG) (sz o n:Nat):Option (List AV):=match W with
 | some (.arr sz' es)=>kZ (sz'==sz) (some (aI es o n)) none
 | _=>none
theorem Tw {x y:Option (List AV)}:kZ true x y=x:=(rfl)
theorem Tv {x y:Option (List AV)}:kZ false x y=y:=(rfl)
theorem amX {sz sz' o n:Nat} {es:List AV}:uW (some (.arr sz' es)) sz o n=kZ (sz'==sz) (some (aI es o n)) none:=(rfl)
theorem tx {i j:Nat} {x y:Option (List AV)}:(if i=j then x else y)=kZ (i==j) x y:=by
 by_cases h:i=j
 ·subst h;rw[if_pos rfl,show(i==i)=true by simp];rfl
 ·rw[if_neg h,show(i==j)=false by simp[h]];rfl
theorem amW (sz:Nat) (st:St):slE sz st .aq=some []∧(∀sz' es,slE sz st (.ro sz' es)=kZ (sz'==sz) (some es) none)∧(∀id o n,slE sz st (.sl id o n)=uW (hget st.h id) sz o n):=by
 refine⟨rfl,fun sz' es=>?_,fun id o n=>?_⟩
 ·rw[←tx];rfl
 ·simp only[slE,uW]
  split
  ·rename_i e;rw[e];exact tx
  ·rename_i e
   split
   ·rename_i e2;exact(e _ _ e2).elim
   ·rfl
def kB (b:Bool) (l:List Nat):List Nat:=match b with
 | true=>l
 | false=>[]
def keep1 (x a:AV):List Nat:=match x,a with
 | .ab p f,.ab p' f'=>kB (p==p'&&f==f') [p]
 | _,_=>[]
theorem X9 (l:List Nat):kB true l=l∧kB false l=[]:=⟨rfl,rfl⟩
theorem Yh (x a:AV) (xs as:List AV):keepL2 (x::xs) (a::as)=keep1 x a++keepL2 xs as:=by
 cases x<;>cases a<;>simp only[keepL2,keep1,List.nil_append]
 rename_i p f p' f'
 by_cases h1:p=p'
 ·by_cases h2:f=f'
  ·subst h1;subst h2;simp[kB]
  ·rw[if_pos h1,if_neg h2,show(p==p'&&f==f')=false by simp[h2]];rfl
 ·rw[if_neg h1,show(p==p'&&f==f')=false by simp[h1]];rfl
theorem Yi (as:List AV):keepL2 [] as=[]:=by simp[keepL2]
theorem Yj (xs:List AV):keepL2 xs []=[]:=by cases xs<;>simp[keepL2]
theorem Yf:(∀(a:AV),keep1 AV.undef a=[]) ∧
 (∀(b:Bool) (a:AV),keep1 (.bool b) a=[]) ∧
 (∀(k:IntKind) (n:Int) (a:AV),keep1 (.int k n) a=[]) ∧
 (∀(k:FloatKind) (n:Nat) (a:AV),keep1 (.fl k n) a=[]) ∧
 (∀(k:FloatKind) (m n:Nat) (a:AV),keep1 (.cx k m n) a=[]) ∧
 (∀(l:List UInt8) (a:AV),keep1 (.str l) a=[]) ∧
 (∀(v:Value) (a:AV),keep1 (.lit v) a=[]) ∧
 (∀(a:AV),keep1 AV.aq a=[]) ∧
 (∀(sz:Nat) (es:List AV) (a:AV),keep1 (.ro sz es) a=[]) ∧
 (∀(x:AV) (a:AV),keep1 (.aA x) a=[]) ∧
 (∀(i o n:Nat) (a:AV),keep1 (.sl i o n) a=[]) ∧
 (∀(i j f:Nat) (a:AV),keep1 (.ptr i j f) a=[]) ∧
 (∀(cs:List AV) (a:AV),keep1 (.agg cs) a=[]) ∧
 (∀(cs:List AV) (a:AV),keep1 (.ai cs) a=[]) ∧
 (∀(b:Bool) (x:AV) (a:AV),keep1 (.gd b x) a=[]) ∧
 (∀(p f:Nat),keep1 (.ab p f) AV.undef=[]) ∧
 (∀(p f:Nat) (b:Bool),keep1 (.ab p f) (.bool b)=[]) ∧
 (∀(p f:Nat) (k:IntKind) (n:Int),keep1 (.ab p f) (.int k n)=[]) ∧
 (∀(p f:Nat) (k:FloatKind) (n:Nat),keep1 (.ab p f) (.fl k n)=[]) ∧
 (∀(p f:Nat) (k:FloatKind) (m n:Nat),keep1 (.ab p f) (.cx k m n)=[]) ∧
 (∀(p f:Nat) (l:List UInt8),keep1 (.ab p f) (.str l)=[]) ∧
 (∀(p f:Nat) (v:Value),keep1 (.ab p f) (.lit v)=[]) ∧
 (∀(p f:Nat),keep1 (.ab p f) AV.aq=[]) ∧
 (∀(p f:Nat) (sz:Nat) (es:List AV),keep1 (.ab p f) (.ro sz es)=[]) ∧
 (∀(p f:Nat) (x:AV),keep1 (.ab p f) (.aA x)=[]) ∧
 (∀(p f:Nat) (i o n:Nat),keep1 (.ab p f) (.sl i o n)=[]) ∧
 (∀(p f:Nat) (i j f:Nat),keep1 (.ab p f) (.ptr i j f)=[]) ∧
 (∀(p f:Nat) (cs:List AV),keep1 (.ab p f) (.agg cs)=[]) ∧
 (∀(p f:Nat) (cs:List AV),keep1 (.ab p f) (.ai cs)=[]) ∧
 (∀(p f:Nat) (b:Bool) (x:AV),keep1 (.ab p f) (.gd b x)=[]) ∧
 (∀(p f p' f':Nat),keep1 (.ab p f) (.ab p' f')=kB (p==p'&&f==f') [p]):=
 ⟨fun _=>rfl,fun _ _=>rfl,fun _ _ _=>rfl,fun _ _ _=>rfl,fun _ _ _ _=>rfl,fun _ _=>rfl,fun _ _=>rfl,fun _=>rfl,fun _ _ _=>rfl,fun _ _=>rfl,fun _ _ _ _=>rfl,fun _ _ _ _=>rfl,fun _ _=>rfl,fun _ _=>rfl,fun _ _ _=>rfl,fun _ _=>rfl,fun _ _ _=>rfl,fun _ _ _ _=>rfl,fun _ _ _ _=>rfl,fun _ _ _ _ _=>rfl,fun _ _ _=>rfl,fun _ _ _=>rfl,fun _ _=>rfl,fun _ _ _ _=>rfl,fun _ _ _=>rfl,fun _ _ _ _ _=>rfl,fun _ _ _ _ _=>rfl,fun _ _ _=>rfl,fun _ _ _=>rfl,fun _ _ _ _=>rfl,fun _ _ _ _=>rfl⟩
def nh (b:Bool) (l:List (Nat×AV)):List (Nat×AV):=match b with
 | true=>l
 | false=>[]
theorem GC (l:List (Nat×AV)):nh true l=l∧nh false l=[]:=⟨rfl,rfl⟩
def back1 (s:List (Nat×AV)) (h:HP) (k:Nat) (a:AV):List (Nat×AV):=match a with
 | .sl i o n=>nh ((hget h i).isSome&&(sget s k).isSome) [(k,.sl i o n)]
 | _=>[]
theorem GO (s:List (Nat×AV)) (h:HP) (k:Nat) (xs:List AE) (a:AV) (as:List AV):backS s h (.t k::xs) (a::as)=back1 s h k a++backS s h xs as:=by
 cases a<;>simp only[backS,back1,List.nil_append]
 rename_i i o n
 cases h1:(hget h i).isSome<;>cases h2:(sget s k).isSome<;>simp[nh]
theorem GL (s:List (Nat×AV)) (h:HP) (v:AV) (xs:List AE) (a:AV) (as:List AV):backS s h (.c v::xs) (a::as)=backS s h xs as:=by
 cases a<;>simp only[backS]
theorem GN (s:List (Nat×AV)) (h:HP) (as:List AV):backS s h [] as=[]:=by simp[backS]
theorem GI:(∀(s:List (Nat×AV)) (h:HP) (k0:Nat),back1 s h k0 AV.undef=[]) ∧
 (∀(s:List (Nat×AV)) (h:HP) (k0:Nat) (b:Bool),back1 s h k0 (.bool b)=[]) ∧
 (∀(s:List (Nat×AV)) (h:HP) (k0:Nat) (k:IntKind) (n:Int),back1 s h k0 (.int k n)=[]) ∧
 (∀(s:List (Nat×AV)) (h:HP) (k0:Nat) (k:FloatKind) (n:Nat),back1 s h k0 (.fl k n)=[]) ∧
 (∀(s:List (Nat×AV)) (h:HP) (k0:Nat) (k:FloatKind) (m n:Nat),back1 s h k0 (.cx k m n)=[]) ∧
 (∀(s:List (Nat×AV)) (h:HP) (k0:Nat) (l:List UInt8),back1 s h k0 (.str l)=[]) ∧
 (∀(s:List (Nat×AV)) (h:HP) (k0:Nat) (v:Value),back1 s h k0 (.lit v)=[]) ∧
 (∀(s:List (Nat×AV)) (h:HP) (k0:Nat),back1 s h k0 AV.aq=[]) ∧
 (∀(s:List (Nat×AV)) (h:HP) (k0:Nat) (sz:Nat) (es:List AV),back1 s h k0 (.ro sz es)=[]) ∧
 (∀(s:List (Nat×AV)) (h:HP) (k0:Nat) (x:AV),back1 s h k0 (.aA x)=[]) ∧
 (∀(s:List (Nat×AV)) (h:HP) (k0:Nat) (i j f:Nat),back1 s h k0 (.ptr i j f)=[]) ∧
 (∀(s:List (Nat×AV)) (h:HP) (k0:Nat) (cs:List AV),back1 s h k0 (.agg cs)=[]) ∧
 (∀(s:List (Nat×AV)) (h:HP) (k0:Nat) (cs:List AV),back1 s h k0 (.ai cs)=[]) ∧
 (∀(s:List (Nat×AV)) (h:HP) (k0:Nat) (b:Bool) (x:AV),back1 s h k0 (.gd b x)=[]) ∧
 (∀(s:List (Nat×AV)) (h:HP) (k0:Nat) (i f:Nat),back1 s h k0 (.ab i f)=[]) ∧
 (∀(s:List (Nat×AV)) (h:HP) (k0:Nat) (i o n:Nat),back1 s h k0 (.sl i o n)=nh ((hget h i).isSome&&(sget s k0).isSome) [(k0,.sl i o n)]):=
 ⟨fun _ _ _=>rfl,fun _ _ _ _=>rfl,fun _ _ _ _ _=>rfl,fun _ _ _ _ _=>rfl,fun _ _ _ _ _ _=>rfl,fun _ _ _ _=>rfl,fun _ _ _ _=>rfl,fun _ _ _=>rfl,fun _ _ _ _ _=>rfl,fun _ _ _ _=>rfl,fun _ _ _ _ _ _=>rfl,fun _ _ _ _=>rfl,fun _ _ _ _=>rfl,fun _ _ _ _ _=>rfl,fun _ _ _ _ _=>rfl,fun _ _ _ _ _ _=>rfl⟩
theorem EO (st:St) (h:HP) (args:List AE) (h':HP) (as:List AV):fv st h args h' as=⟨backS st.s h' args as++killSI (di h++di h') (keepL2 (args.map (ev st)) as) st.s,h'++dropH (di h++di h') (keepL2 (args.map (ev st)) as) st.h⟩:=(rfl)
theorem aod (sz:Nat) (st:St):(∀l,srcE sz st (.str l)=kZ (sz==1) (some (l.map ub)) none)∧srcE sz st .aq=slE sz st .aq∧(∀sz' es,srcE sz st (.ro sz' es)=slE sz st (.ro sz' es))∧(∀id o n,srcE sz st (.sl id o n)=slE sz st (.sl id o n)):=
 ⟨fun l=>by rw[←tx];rfl,rfl,fun _ _=>rfl,fun _ _ _=>rfl⟩
theorem IB (x:AV):aP x=(cellsOf x).all isCell:=(rfl)
theorem alV {α:Type} (l:List α) (k:Nat) (s:List α):bW l k s=l.take k++s++l.drop (k+s.length):=(rfl)
theorem af0:(∀x,packC [x]=x)∧packC []=.agg []∧(∀x y r,packC (x::y::r)=.agg (x::y::r)):=⟨fun _=>rfl,rfl,fun _ _ _=>rfl⟩
theorem ag9 (γ β:Bool) (x y:AV) :
 (∀p q,pick2 γ β x y (.bool p) (.bool q)=.ok ((γ=true→β=true→aB true x)∧(γ=true→β=false→aB true y)) (.bool (if β then p else q))) ∧
 (∀p,pick2 γ β x y (.bool p) .undef=.ok (γ=true→β=true∧aB true x) (.bool p)) ∧
 (∀q,pick2 γ β x y .undef (.bool q)=.ok (γ=true→β=false∧aB true y) (.bool q)):=⟨fun _ _=>rfl,fun _=>rfl,fun _=>rfl⟩
theorem aha (γ β:Bool) (x y:AV):pickR γ (.bool β) x y=pick2 γ β x y (stripV x) (stripV y):=(rfl)
theorem Yp (st:St):(∀id o n,keepR st (.sl id o n)=keepSl st id o n (hget st.h id)) ∧
 (∀b,keepR st (.bool b)=.ok (bA (.bool b)=true∧aP (.bool b)=true) (.bool b) st) ∧
 (∀k n,keepR st (.int k n)=.ok (bA (.int k n)=true∧aP (.int k n)=true) (.int k n) st) ∧
 (∀k n,keepR st (.fl k n)=.ok (bA (.fl k n)=true∧aP (.fl k n)=true) (.fl k n) st) ∧
 (∀k a b,keepR st (.cx k a b)=.ok (bA (.cx k a b)=true∧aP (.cx k a b)=true) (.cx k a b) st) ∧
 (∀l,keepR st (.str l)=.ok (bA (.str l)=true∧aP (.str l)=true) (.str l) st) ∧
 (∀l,keepR st (.lit l)=.ok (bA (.lit l)=true∧aP (.lit l)=true) (.lit l) st) ∧
 (keepR st .aq=.ok (bA .aq=true∧aP .aq=true) .aq st) ∧
 (∀sz es,keepR st (.ro sz es)=.ok (bA (.ro sz es)=true∧aP (.ro sz es)=true) (.ro sz es) st) ∧
 (∀x,keepR st (.aA x)=.ok (bA (.aA x)=true∧aP (.aA x)=true) (.aA x) st) ∧
 (∀cs,keepR st (.agg cs)=.ok (bA (.agg cs)=true∧aP (.agg cs)=true) (.agg cs) st):=
 ⟨fun _ _ _=>rfl,fun _=>rfl,fun _ _=>rfl,fun _ _=>rfl,fun _ _ _=>rfl,fun _=>rfl,fun _=>rfl,rfl,fun _ _=>rfl,fun _=>rfl,fun _=>rfl⟩
theorem Fa :
 (∀(c:Prop) d v,andR c (.ok d v)=.ok (c∧d) v) ∧
 (∀(c:Prop),andR c (.fail)=.fail):=
 ⟨(fun _ _ _=>rfl),(fun _=>rfl)⟩
theorem UI :
 (∀(γ:Bool) (k:IntKind) (k':IntKind) (x:Int) (y:Int),intR γ (.shl) k k' x y=.ok (γ=true→0≤y) (.int k (k.wrap (x*2^(min y.toNat k.bits))))) ∧
 (∀(γ:Bool) (k:IntKind) (k':IntKind) (x:Int) (y:Int),intR γ (.shr) k k' x y=.ok (γ=true→0≤y) (.int k (x.fdiv (2^(min y.toNat k.bits))))) ∧
 (∀(γ:Bool) (k:IntKind) (k':IntKind) (x:Int) (y:Int),intR γ (.add) k k' x y=.ok (k=k') (.int k (k.wrap (x+y)))) ∧
 (∀(γ:Bool) (k:IntKind) (k':IntKind) (x:Int) (y:Int),intR γ (.sub) k k' x y=.ok (k=k') (.int k (k.wrap (x-y)))) ∧
 (∀(γ:Bool) (k:IntKind) (k':IntKind) (x:Int) (y:Int),intR γ (.mul) k k' x y=.ok (k=k') (.int k (k.wrap (x*y)))) ∧
 (∀(γ:Bool) (k:IntKind) (k':IntKind) (x:Int) (y:Int),intR γ (.quo) k k' x y=.ok (k=k'∧(γ=true→y≠0)) (.int k (k.wrap (x.tdiv y)))) ∧
 (∀(γ:Bool) (k:IntKind) (k':IntKind) (x:Int) (y:Int),intR γ (.rem) k k' x y=.ok (k=k'∧(γ=true→y≠0)) (.int k (x.tmod y))) ∧
 (∀(γ:Bool) (k:IntKind) (k':IntKind) (x:Int) (y:Int),intR γ (.and) k k' x y=.ok (k=k') (.int k (bits .and k x y))) ∧
 (∀(γ:Bool) (k:IntKind) (k':IntKind) (x:Int) (y:Int),intR γ (.or) k k' x y=.ok (k=k') (.int k (bits .or k x y))) ∧
 (∀(γ:Bool) (k:IntKind) (k':IntKind) (x:Int) (y:Int),intR γ (.xor) k k' x y=.ok (k=k') (.int k (bits .xor k x y))) ∧
 (∀(γ:Bool) (k:IntKind) (k':IntKind) (x:Int) (y:Int),intR γ (.andNot) k k' x y=.ok (k=k') (.int k (bits .andNot k x y))) ∧
 (∀(γ:Bool) (k:IntKind) (k':IntKind) (x:Int) (y:Int),intR γ (.eql) k k' x y=.ok (k=k') (.bool (decide (x=y)))) ∧
 (∀(γ:Bool) (k:IntKind) (k':IntKind) (x:Int) (y:Int),intR γ (.neq) k k' x y=.ok (k=k') (.bool (!decide (x=y)))) ∧
 (∀(γ:Bool) (k:IntKind) (k':IntKind) (x:Int) (y:Int),intR γ (.lss) k k' x y=.ok (k=k') (.bool (decide (x<y)))) ∧
 (∀(γ:Bool) (k:IntKind) (k':IntKind) (x:Int) (y:Int),intR γ (.leq) k k' x y=.ok (k=k') (.bool (decide (x≤y)))) ∧
 (∀(γ:Bool) (k:IntKind) (k':IntKind) (x:Int) (y:Int),intR γ (.gtr) k k' x y=.ok (k=k') (.bool (decide (y<x)))) ∧
 (∀(γ:Bool) (k:IntKind) (k':IntKind) (x:Int) (y:Int),intR γ (.geq) k k' x y=.ok (k=k') (.bool (decide (y≤x)))):=
 ⟨(fun _ _ _ _ _=>rfl),(fun _ _ _ _ _=>rfl),(fun _ _ _ _ _=>rfl),(fun _ _ _ _ _=>rfl),(fun _ _ _ _ _=>rfl),(fun _ _ _ _ _=>rfl),(fun _ _ _ _ _=>rfl),(fun _ _ _ _ _=>rfl),(fun _ _ _ _ _=>rfl),(fun _ _ _ _ _=>rfl),(fun _ _ _ _ _=>rfl),(fun _ _ _ _ _=>rfl),(fun _ _ _ _ _=>rfl),(fun _ _ _ _ _=>rfl),(fun _ _ _ _ _=>rfl),(fun _ _ _ _ _=>rfl),(fun _ _ _ _ _=>rfl)⟩
theorem aoB :
 (∀(γ:Bool) (x:List UInt8) (y:List UInt8),jk γ (.add) x y=.ok (γ=true→x.length+y.length≤9223372036854775807) (.str (x++y))) ∧
 (∀(γ:Bool) (x:List UInt8) (y:List UInt8),jk γ (.eql) x y=.ok True (.bool (x==y))) ∧
 (∀(γ:Bool) (x:List UInt8) (y:List UInt8),jk γ (.neq) x y=.ok True (.bool (!(x==y)))) ∧
 (∀(γ:Bool) (x:List UInt8) (y:List UInt8),jk γ (.lss) x y=.ok True (.bool (Op.bytesLess x y))) ∧
 (∀(γ:Bool) (x:List UInt8) (y:List UInt8),jk γ (.leq) x y=.ok True (.bool (Op.bytesLess x y||x==y))) ∧
 (∀(γ:Bool) (x:List UInt8) (y:List UInt8),jk γ (.gtr) x y=.ok True (.bool (!(Op.bytesLess x y||x==y)))) ∧
 (∀(γ:Bool) (x:List UInt8) (y:List UInt8),jk γ (.geq) x y=.ok True (.bool (!Op.bytesLess x y))):=
 ⟨(fun _ _ _=>rfl),(fun _ _ _=>rfl),(fun _ _ _=>rfl),(fun _ _ _=>rfl),(fun _ _ _=>rfl),(fun _ _ _=>rfl),(fun _ _ _=>rfl)⟩
theorem OO :
 (∀(k:FloatKind) (k':FloatKind) (x:Nat) (y:Nat),gz (.add) k k' x y=.ok (k=k'∧(k.format.add x y).isSome=true) (.fl k ((k.format.add x y).getD 0))) ∧
 (∀(k:FloatKind) (k':FloatKind) (x:Nat) (y:Nat),gz (.sub) k k' x y=.ok (k=k'∧(k.format.sub x y).isSome=true) (.fl k ((k.format.sub x y).getD 0))) ∧
 (∀(k:FloatKind) (k':FloatKind) (x:Nat) (y:Nat),gz (.mul) k k' x y=.ok (k=k'∧(k.format.mul x y).isSome=true) (.fl k ((k.format.mul x y).getD 0))) ∧
 (∀(k:FloatKind) (k':FloatKind) (x:Nat) (y:Nat),gz (.eql) k k' x y=.ok (k=k') (.bool (k.format.order x y==some .eq))) ∧
 (∀(k:FloatKind) (k':FloatKind) (x:Nat) (y:Nat),gz (.neq) k k' x y=.ok (k=k') (.bool (k.format.order x y != some .eq))) ∧
 (∀(k:FloatKind) (k':FloatKind) (x:Nat) (y:Nat),gz (.lss) k k' x y=.ok (k=k') (.bool (k.format.order x y==some .lt))) ∧
 (∀(k:FloatKind) (k':FloatKind) (x:Nat) (y:Nat),gz (.gtr) k k' x y=.ok (k=k') (.bool (k.format.order x y==some .gt))) ∧
 (∀(k:FloatKind) (k':FloatKind) (x:Nat) (y:Nat),gz (.leq) k k' x y=.ok (k=k') (.bool (k.format.order x y==some .lt||k.format.order x y==some .eq))) ∧
 (∀(k:FloatKind) (k':FloatKind) (x:Nat) (y:Nat),gz (.geq) k k' x y=.ok (k=k') (.bool (k.format.order x y==some .gt||k.format.order x y==some .eq))):=
 ⟨(fun _ _ _ _=>rfl),(fun _ _ _ _=>rfl),(fun _ _ _ _=>rfl),(fun _ _ _ _=>rfl),(fun _ _ _ _=>rfl),(fun _ _ _ _=>rfl),(fun _ _ _ _=>rfl),(fun _ _ _ _=>rfl),(fun _ _ _ _=>rfl)⟩
theorem Kx :
 (∀(k:FloatKind) (k':FloatKind) (a:Nat) (b:Nat) (c:Nat) (d:Nat),kP (.add) k k' a b c d=.ok (k=k'∧(k.format.add a c).isSome=true∧(k.format.add b d).isSome=true) (.cx k ((k.format.add a c).getD 0) ((k.format.add b d).getD 0))) ∧
 (∀(k:FloatKind) (k':FloatKind) (a:Nat) (b:Nat) (c:Nat) (d:Nat),kP (.sub) k k' a b c d=.ok (k=k'∧(k.format.sub a c).isSome=true∧(k.format.sub b d).isSome=true) (.cx k ((k.format.sub a c).getD 0) ((k.format.sub b d).getD 0))) ∧
 (∀(k:FloatKind) (k':FloatKind) (a:Nat) (b:Nat) (c:Nat) (d:Nat),kP (.eql) k k' a b c d=.ok (k=k') (.bool (k.format.order a c==some .eq&&k.format.order b d==some .eq))) ∧
 (∀(k:FloatKind) (k':FloatKind) (a:Nat) (b:Nat) (c:Nat) (d:Nat),kP (.neq) k k' a b c d=.ok (k=k') (.bool (!(k.format.order a c==some .eq&&k.format.order b d==some .eq)))):=
 ⟨(fun _ _ _ _ _ _=>rfl),(fun _ _ _ _ _ _=>rfl),(fun _ _ _ _ _ _=>rfl),(fun _ _ _ _ _ _=>rfl)⟩
theorem G3 :
 (∀(γ:Bool) (op:BinOp) k a k' b,binR γ op (.int k a) (.int k' b)=intR γ op k k' a b) ∧
 (∀(γ:Bool) (op:BinOp) a b,binR γ op (.str a) (.str b)=jk γ op a b) ∧
 (∀(γ:Bool) (op:BinOp) k a k' b,binR γ op (.fl k a) (.fl k' b)=gz op k k' a b) ∧
 (∀(γ:Bool) (op:BinOp) k a b k' c d,binR γ op (.cx k a b) (.cx k' c d)=kP op k k' a b c d):=
 ⟨(fun _ _ _ _ _ _=>rfl),(fun _ _ _ _=>rfl),(fun _ _ _ _ _ _=>rfl),(fun _ _ _ _ _ _ _ _=>rfl)⟩
theorem GV :
 (∀(neg:Bool) a b,beqR neg (.bool a) (.bool b)=.ok True (.bool (if neg then !(a==b)else a==b))):=
 (fun _ _ _=>rfl)
theorem NT :
 (∀a b,eqOK 0 (.bool a) (.bool b)=true)∧(∀k a k' b,eqOK 1 (.int k a) (.int k' b)=(k==k'))∧(∀a b,eqOK 2 (.str a) (.str b)=true):=⟨(fun _ _=>rfl),(fun _ _ _ _=>rfl),(fun _ _=>rfl)⟩
theorem NQ :
 (∀a b,eqC (.bool a) (.bool b)=(a==b))∧(∀k a k' b,eqC (.int k a) (.int k' b)=decide (a=b))∧(∀a b,eqC (.str a) (.str b)=(a==b)):=⟨(fun _ _=>rfl),(fun _ _ _ _=>rfl),(fun _ _=>rfl)⟩
theorem T6 (k:IntKind):(k==k)=true:=by cases k<;>decide
theorem NV:eqOKs [] [] []=true:=(rfl)
theorem NU (k:Nat) (ks:List Nat) (c:AV) (cs:List AV) (d:AV) (ds:List AV):eqOKs (k::ks) (c::cs) (d::ds)=(eqOK k c d&&eqOKs ks cs ds):=(rfl)
theorem NS:eqCs [] []=true:=(rfl)
theorem NR (c:AV) (cs:List AV) (d:AV) (ds:List AV):eqCs (c::cs) (d::ds)=(eqC c d&&eqCs cs ds):=(rfl)
theorem EL (γ neg:Bool) (ks:List Nat) (cs ds:List AV):aeqR γ neg ks (.agg cs) (.agg ds)=.ok (γ=true→eqOKs ks cs ds=true) (.bool (if neg then !(eqCs cs ds)else eqCs cs ds)):=(rfl)
theorem FK (γ:Bool) (st:St) (neg:Bool) (ks:List Nat) (x y:AE):avalR γ st (.mZ neg ks x y)=andR (aB γ (ev st x)) (andR (aB γ (ev st y)) (aeqR γ neg ks (stripV (ev st x)) (stripV (ev st y)))):=(rfl)
theorem apD :
 (∀b,unR (.not) (.bool b)=.ok True (.bool (!b))) ∧
 (∀k n,unR (.neg) (.int k n)=.ok True (.int k (k.wrap (0-n)))) ∧
 (∀k n,unR (.xor) (.int k n)=.ok True (.int k (bits .xor k (if k.signed then -1 else k.max) n))):=
 ⟨(fun _=>rfl),(fun _ _=>rfl),(fun _ _=>rfl)⟩
theorem Ks :
 (∀(k:IntKind) u1 n,cviR k (.int u1 n)=.ok True (.int k (k.wrap n))):=
 (fun _ _ _=>rfl)
theorem Jf :
 (∀(k:FloatKind) u1 n,py k (.int u1 n)=.ok True (.fl k (k.nearest n))):=
 (fun _ _ _=>rfl)
theorem I3 :
 (∀(γ:Bool) (k:IntKind) s b,cfiR γ k (.fl s b)=.ok (γ=true→(floatToIntVal s b k).isSome=true) (.int k ((floatToIntVal s b k).getD 0))):=
 (fun _ _ _ _=>rfl)
theorem Kn :
 (∀s,cstR (.str s)=.ok True (.str s)):=
 (fun _=>rfl)
theorem Il :
 (∀(γ:Bool) es,btsR γ (some es)=.ok (γ=true→gO es=true) (.str (bytesOf es))) ∧
 (∀(γ:Bool),btsR γ (none)=.fail):=
 ⟨(fun _ _=>rfl),(fun _=>rfl)⟩
theorem JO :
 (∀k a k' b,cplxR (.fl k a) (.fl k' b)=.ok (k=k') (.cx k a b)):=
 (fun _ _ _ _=>rfl)
theorem aiy :
 (∀k a u1,reR (.cx k a u1)=.ok True (.fl k a)):=
 (fun _ _ _=>rfl)
theorem Uj :
 (∀k u1 b,ql (.cx k u1 b)=.ok True (.fl k b)):=
 (fun _ _ _=>rfl)
theorem aab :
 (∀l,lenR (true) (.str l)=.ok True (.int .i64 l.length)) ∧
 (∀u1 es,lenR (false) (.ro u1 es)=.ok True (.int .i64 es.length)) ∧
 (∀u1 u2 n,lenR (false) (.sl u1 u2 n)=.ok True (.int .i64 n)) ∧
 (lenR (false) (.aq)=.ok True (.int .i64 0)):=
 ⟨(fun _=>rfl),(fun _ _=>rfl),(fun _ _ _=>rfl),rfl⟩
theorem abN :
 (∀(mx:Bool) k a u1 b,mmR mx (.int k a) (.int u1 b)=.ok True (.int k (if mx then(if b > a then b else a)else(if b<a then b else a)))):=
 (fun _ _ _ _ _=>rfl)
theorem NZ :
 (∀(i:Nat) vs,extR (.ai vs) i=.ok (i<vs.length) (vs.getD i .undef)):=
 (fun _ _=>rfl)
theorem aca :
 (∀e,nilcR (.aA e)=.ok True (.aA e)) ∧
 (∀id f,nilcR (.ab id f)=.ok True (.ab id f)):=
 ⟨(fun _=>rfl),(fun _ _=>rfl)⟩
theorem Tu :
 (∀(γ:Bool) (sz:Nat) (id:Nat) (off:Nat) (n:Nat) (i:Int) sz' u1,idxW γ sz (some (.arr sz' u1)) id off n i=.ok ((γ=true→0≤i∧i<n)∧0<sz∧sz'=sz) (.ptr id (off+i.toNat) 0)):=
 (fun _ _ _ _ _ _ _ _=>rfl)
theorem Ts :
 (∀(γ:Bool) (st:St) (sz:Nat) sz' es u1 i,idxR γ st sz (.ro sz' es) (.int u1 i)=.ok ((γ=true→0≤i∧i<es.length)∧0<sz∧sz'=sz) (.aA (nth es i.toNat))) ∧
 (∀(γ:Bool) (st:St) (sz:Nat) id off n u1 i,idxR γ st sz (.sl id off n) (.int u1 i)=idxW γ sz (hget st.h id) id off n i):=
 ⟨(fun _ _ _ _ _ _ _=>rfl),(fun _ _ _ _ _ _ _ _=>rfl)⟩
theorem amG :
 (∀(γ:Bool) l u1 i,sidxR γ (.str l) (.int u1 i)=.ok (γ=true→0≤i∧i<l.length) (.int .u8 (l.getD i.toNat 0).toNat)):=
 (fun _ _ _ _=>rfl)
theorem Z0 :
 (∀(γ:Bool) (n:Nat) (cs:List AV),ldcR γ (true) n cs=.ok (γ=true→n≤cs.length) (.agg (cs.take n))) ∧
 (∀(γ:Bool) (n:Nat) (cs:List AV),ldcR γ (false) n cs=.ok (γ=true→0<cs.length) (cs.getD 0 .undef)):=
 ⟨(fun _ _ _=>rfl),(fun _ _ _=>rfl)⟩
theorem ZU :
 (∀(γ:Bool) (ag:Bool) (n:Nat) (i:Nat) (f:Nat) u1 es,qt γ ag n i f (some (.arr u1 es))=ldcR γ ag n ((cellsOf (nth es i)).drop f)):=
 (fun _ _ _ _ _ _ _=>rfl)
theorem ZZ :
 (∀(γ:Bool) (ag:Bool) (n:Nat) (f:Nat) cs,ldV γ ag n f (some (.var cs))=ldcR γ ag n (cs.drop f)):=
 (fun _ _ _ _ _=>rfl)
theorem ZY :
 (∀(γ:Bool) (st:St) (ag:Bool) (n:Nat) e,ldR γ st ag n (.aA e)=ldcR γ ag n (cellsOf e)) ∧
 (∀(γ:Bool) (st:St) (ag:Bool) (n:Nat) id i f,ldR γ st ag n (.ptr id i f)=qt γ ag n i f (hget st.h id)) ∧
 (∀(γ:Bool) (st:St) (ag:Bool) (n:Nat) id f,ldR γ st ag n (.ab id f)=ldV γ ag n f (hget st.h id)):=
 ⟨(fun _ _ _ _ _=>rfl),(fun _ _ _ _ _ _ _=>rfl),(fun _ _ _ _ _ _=>rfl)⟩
theorem Gz :
 (∀(γ:Bool) (n:Nat) (c:Prop) u1 l,pb γ n c (.int u1 l)=.ok (c∧(γ=true→0≤l∧l≤n)) l.toNat n):=
 (fun _ _ _ _ _=>rfl)
theorem GA :
 (∀(γ:Bool) (n:Nat) (c:Prop) u1 h,pc γ n c (.int u1 h)=.ok (c∧(γ=true→0≤h∧h≤n)) 0 h.toNat):=
 (fun _ _ _ _ _=>rfl)
theorem GB :
 (∀(γ:Bool) (n:Nat) (c:Prop) (c':Prop) u1 l u2 h,pd γ n c c' (.int u1 l) (.int u2 h)=.ok (c∧c'∧(γ=true→0≤l∧l≤h∧h≤n)) l.toNat h.toNat):=
 (fun _ _ _ _ _ _ _ _=>rfl)
theorem HH :
 (∀(γ:Bool) (st:St) (n:Nat),bndR γ st n (none) (none)=.ok True 0 n) ∧
 (∀(γ:Bool) (st:St) (n:Nat) l,bndR γ st n (some l) (none)=pb γ n (aB γ (ev st l)) (stripV (ev st l))) ∧
 (∀(γ:Bool) (st:St) (n:Nat) h,bndR γ st n (none) (some h)=pc γ n (aB γ (ev st h)) (stripV (ev st h))) ∧
 (∀(γ:Bool) (st:St) (n:Nat) l h,bndR γ st n (some l) (some h)=pd γ n (aB γ (ev st l)) (aB γ (ev st h)) (stripV (ev st l)) (stripV (ev st h))):=
 ⟨(fun _ _ _=>rfl),(fun _ _ _ _=>rfl),(fun _ _ _ _=>rfl),(fun _ _ _ _ _=>rfl)⟩
theorem am4 :
 (∀(s:List UInt8) c l h,slcStrR s (.ok c l h)=.ok c (.str ((s.drop l).take (h-l)))) ∧
 (∀(s:List UInt8),slcStrR s (.fail)=.fail):=
 ⟨(fun _ _ _ _=>rfl),(fun _=>rfl)⟩
theorem am2 :
 (∀(γ:Bool) (st:St) (lo:Option AE) (hi:Option AE) s,rj γ st lo hi (.str s)=slcStrR s (bndR γ st s.length lo hi)):=
 (fun _ _ _ _ _=>rfl)
theorem am0 :
 (∀c u1 u2,oq (.ok c u1 u2)=.ok c .aq) ∧
 (oq (.fail)=.fail):=
 ⟨(fun _ _ _=>rfl),rfl⟩
theorem am1 :
 (∀(sz:Nat) (sz':Nat) (es:List AV) c l h,ot sz sz' es (.ok c l h)=.ok (sz'=sz∧c) (.ro sz (aI es l (h-l)))) ∧
 (∀(sz:Nat) (sz':Nat) (es:List AV),ot sz sz' es (.fail)=.fail):=
 ⟨(fun _ _ _ _ _ _=>rfl),(fun _ _ _=>rfl)⟩
theorem am3 :
 (∀(sz:Nat) (id:Nat) (off:Nat) c l h sz' u1,slcSlR sz id off (some (.arr sz' u1)) (.ok c l h)=.ok (c∧sz'=sz) (.sl id (off+l) (h-l))):=
 (fun _ _ _ _ _ _ _ _=>rfl)
theorem amZ :
 (∀(γ:Bool) (st:St) (sz:Nat) (lo:Option AE) (hi:Option AE),slcAR γ st sz lo hi (.aq)=oq (bndR γ st 0 lo hi)) ∧
 (∀(γ:Bool) (st:St) (sz:Nat) (lo:Option AE) (hi:Option AE) sz' es,slcAR γ st sz lo hi (.ro sz' es)=ot sz sz' es (bndR γ st es.length lo hi)) ∧
 (∀(γ:Bool) (st:St) (sz:Nat) (lo:Option AE) (hi:Option AE) id off n,slcAR γ st sz lo hi (.sl id off n)=slcSlR sz id off (hget st.h id) (bndR γ st n lo hi)):=
 ⟨(fun _ _ _ _ _=>rfl),(fun _ _ _ _ _ _ _=>rfl),(fun _ _ _ _ _ _ _ _=>rfl)⟩
theorem O2 :
 (∀(off:Nat) (id:Nat) (i:Nat) (f:Nat) sz u1,pX off (some (.arr sz u1)) id i f=.ok (f+off<sz) (.ptr id i (f+off))):=
 (fun _ _ _ _ _ _=>rfl)
theorem O0 :
 (∀(γ:Bool) (off:Nat) (n:Nat) (cs:List AV),pW γ (true) off n cs=.ok ((γ=true→off+n≤cs.length)∧0<n) (.aA (.agg ((cs.drop off).take n)))) ∧
 (∀(γ:Bool) (off:Nat) (n:Nat) (cs:List AV),pW γ (false) off n cs=.ok ((γ=true→off+n≤cs.length)∧0<n∧n=1∧isCell (cs.getD off .undef)=true) (.aA (cs.getD off .undef))):=
 ⟨(fun _ _ _ _=>rfl),(fun _ _ _ _=>rfl)⟩
theorem OZ :
 (∀(γ:Bool) (st:St) (ag:Bool) (off:Nat) (n:Nat) e,kU γ st ag off n (.aA e)=pW γ ag off n (cellsOf e)) ∧
 (∀(γ:Bool) (st:St) (ag:Bool) (off:Nat) (n:Nat) id i f,kU γ st ag off n (.ptr id i f)=pX off (hget st.h id) id i f) ∧
 (∀(γ:Bool) (st:St) (ag:Bool) (off:Nat) (n:Nat) id f,kU γ st ag off n (.ab id f)=.ok True (.ab id (f+off))):=
 ⟨(fun _ _ _ _ _ _=>rfl),(fun _ _ _ _ _ _ _ _=>rfl),(fun _ _ _ _ _ _ _=>rfl)⟩
theorem O1 :
 (∀(γ:Bool) (ag:Bool) (off:Nat) (n:Nat) cs,fldR γ ag off n (.agg cs)=.ok ((γ=true→off+n≤cs.length)∧0<n) (if ag then .agg ((cs.drop off).take n)else cs.getD off .undef)):=
 (fun _ _ _ _ _=>rfl)
theorem FP :
 (∀(γ:Bool) (st:St) x,avalR γ st (.af x)=andR (aB γ (ev st x)) (.ok True (stripV (ev st x)))) ∧
 (∀(γ:Bool) (st:St) c x y,avalR γ st (.pick c x y)=andR (aB γ (ev st c)) (pickR γ (stripV (ev st c)) (ev st x) (ev st y))) ∧
 (∀(γ:Bool) (st:St) op x y,avalR γ st (.bin op x y)=andR (aB γ (ev st x)) (andR (aB γ (ev st y)) (binR γ op (stripV (ev st x)) (stripV (ev st y))))) ∧
 (∀(γ:Bool) (st:St) neg x y,avalR γ st (.beq neg x y)=andR (aB γ (ev st x)) (andR (aB γ (ev st y)) (beqR neg (stripV (ev st x)) (stripV (ev st y))))) ∧
 (∀(γ:Bool) (st:St) op x,avalR γ st (.un op x)=andR (aB γ (ev st x)) (unR op (stripV (ev st x)))) ∧
 (∀(γ:Bool) (st:St) k x,avalR γ st (.a7 k x)=andR (aB γ (ev st x)) (cviR k (stripV (ev st x)))) ∧
 (∀(γ:Bool) (st:St) k x,avalR γ st (.px k x)=andR (aB γ (ev st x)) (py k (stripV (ev st x)))) ∧
 (∀(γ:Bool) (st:St) k x,avalR γ st (.pt k x)=andR (aB γ (ev st x)) (cfiR γ k (stripV (ev st x)))) ∧
 (∀(γ:Bool) (st:St) x,avalR γ st (.pD x)=andR (aB γ (ev st x)) (cstR (stripV (ev st x)))) ∧
 (∀(γ:Bool) (st:St) x,avalR γ st (.gR x)=andR (aB γ (ev st x)) (btsR γ (slE 1 st (stripV (ev st x))))) ∧
 (∀(γ:Bool) (st:St) x y,avalR γ st (.pA x y)=andR (aB γ (ev st x)) (andR (aB γ (ev st y)) (cplxR (stripV (ev st x)) (stripV (ev st y))))) ∧
 (∀(γ:Bool) (st:St) x,avalR γ st (.re x)=andR (aB γ (ev st x)) (reR (stripV (ev st x)))) ∧
 (∀(γ:Bool) (st:St) x,avalR γ st (.im x)=andR (aB γ (ev st x)) (ql (stripV (ev st x)))) ∧
 (∀(γ:Bool) (st:St) str x,avalR γ st (.len str x)=andR (aB γ (ev st x)) (lenR str (stripV (ev st x)))) ∧
 (∀(γ:Bool) (st:St) mx x y,avalR γ st (.mm mx x y)=andR (aB γ (ev st x)) (andR (aB γ (ev st y)) (mmR mx (stripV (ev st x)) (stripV (ev st y))))) ∧
 (∀(γ:Bool) (st:St) x i,avalR γ st (.ext x i)=andR (aB γ (ev st x)) (extR (stripV (ev st x)) i)) ∧
 (∀(γ:Bool) (st:St) x,avalR γ st (.au x)=andR (aB γ (ev st x)) (nilcR (stripV (ev st x)))) ∧
 (∀(γ:Bool) (st:St) sz x i,avalR γ st (.aM sz x i)=andR (aB γ (ev st x)) (andR (aB γ (ev st i)) (idxR γ st sz (stripV (ev st x)) (stripV (ev st i))))) ∧
 (∀(γ:Bool) (st:St) x i,avalR γ st (.cG x i)=andR (aB γ (ev st x)) (andR (aB γ (ev st i)) (sidxR γ (stripV (ev st x)) (stripV (ev st i))))) ∧
 (∀(γ:Bool) (st:St) ag n x,avalR γ st (.ld ag n x)=andR (aB γ (ev st x)) (ldR γ st ag n (stripV (ev st x)))) ∧
 (∀(γ:Bool) (st:St) x lo hi,avalR γ st (.bB x lo hi)=andR (aB γ (ev st x)) (rj γ st lo hi (stripV (ev st x)))) ∧
 (∀(γ:Bool) (st:St) sz x lo hi,avalR γ st (.kp sz x lo hi)=andR (aB γ (ev st x)) (slcAR γ st sz lo hi (stripV (ev st x)))) ∧
 (∀(γ:Bool) (st:St) ag off n x,avalR γ st (.aj ag off n x)=andR (aB γ (ev st x)) (kU γ st ag off n (stripV (ev st x)))) ∧
 (∀(γ:Bool) (st:St) ag off n x,avalR γ st (.pV ag off n x)=andR (aB γ (ev st x)) (fldR γ ag off n (stripV (ev st x)))):=
 ⟨(fun _ _ _=>rfl),(fun _ _ _ _ _=>rfl),(fun _ _ _ _ _=>rfl),(fun _ _ _ _ _=>rfl),(fun _ _ _ _=>rfl),(fun _ _ _ _=>rfl),(fun _ _ _ _=>rfl),(fun _ _ _ _=>rfl),(fun _ _ _=>rfl),(fun _ _ _=>rfl),(fun _ _ _ _=>rfl),(fun _ _ _=>rfl),(fun _ _ _=>rfl),(fun _ _ _ _=>rfl),(fun _ _ _ _ _=>rfl),(fun _ _ _ _=>rfl),(fun _ _ _=>rfl),(fun _ _ _ _ _=>rfl),(fun _ _ _ _=>rfl),(fun _ _ _ _ _=>rfl),(fun _ _ _ _ _=>rfl),(fun _ _ _ _ _ _=>rfl),(fun _ _ _ _ _ _=>rfl),(fun _ _ _ _ _ _=>rfl)⟩
theorem G5 (γ:Bool) (st:St) (cs:List AV):bldR γ st [] cs=.ok True (.agg cs):=(rfl)
theorem G4 (γ:Bool) (st:St) (o n:Nat) (x:AE) (r:List (Nat×Nat×AE)) (cs:List AV) :
    bldR γ st ((o,n,x)::r) cs=andR (aB γ (ev st x)) (andR (γ=true→aP (stripV (ev st x))=true∧(cellsOf (stripV (ev st x))).length=n∧o+n≤cs.length) (bldR γ st r (cs.take o++cellsOf (stripV (ev st x))++cs.drop (o+n)))):=(rfl)
theorem FL (γ:Bool) (st:St) (z:List AV) (ps:List (Nat×Nat×AE)):avalR γ st (.bE z ps)=bldR γ st ps z:=(rfl)
theorem FQ (γ:Bool) (st:St) (len sz:Nat) (x i:AE):avalR γ st (.cW len sz x i)=andR (aB γ (ev st x)) (andR (aB γ (ev st i)) (idxPR γ len sz (stripV (ev st x)) (stripV (ev st i)))):=(rfl)
theorem FT (γ:Bool) (st:St) (len:Nat) (x i:AE):avalR γ st (.mr len x i)=andR (aB γ (ev st x)) (andR (aB γ (ev st i)) (idxVR γ len (stripV (ev st x)) (stripV (ev st i)))):=(rfl)
theorem FZ (γ:Bool) (st:St) (neg:Bool) (x:AE):avalR γ st (.kq neg x)=andR (aB γ (ev st x)) (snilR γ st neg (stripV (ev st x))):=(rfl)
theorem Tp (γ:Bool) (len sz:Nat) (cs:List AV) (k:IntKind) (i:Int):idxPR γ len sz (.aA (.agg cs)) (.int k i)=.ok ((γ=true→0≤i∧i<len∧i<cs.length)∧sz=1∧isCell (cs.getD i.toNat .undef)=true) (.aA (cs.getD i.toNat .undef)):=(rfl)
theorem Tq (γ:Bool) (len sz id f:Nat) (k:IntKind) (i:Int):idxPR γ len sz (.ab id f) (.int k i)=.ok (γ=true→0≤i∧i<len) (.ab id (f+i.toNat*sz)):=(rfl)
theorem Tt (γ:Bool) (len:Nat) (cs:List AV) (k:IntKind) (i:Int):idxVR γ len (.agg cs) (.int k i)=.ok (γ=true→0≤i∧i<len∧i<cs.length) (cs.getD i.toNat .undef):=(rfl)
theorem anV (γ neg:Bool) (n sz:Nat) (es:List AV):rl γ neg n (some (.arr sz es))=.ok (γ=true→0<n) (.bool neg):=(rfl)
theorem FU (γ:Bool) (st:St) (neg:Bool) (x:AE):avalR γ st (.mv neg x)=andR (aB γ (ev st x)) (inilR γ neg (stripV (ev st x))):=(rfl)
theorem FW (γ:Bool) (st:St) (t:TypeId) (x:AE):avalR γ st (.fF t x)=andR (aB γ (ev st x)) (mkiR t (stripV (ev st x))):=(rfl)
theorem FM (γ:Bool) (st:St) (x:AE):avalR γ st (.pH x)=andR (aB γ (ev st x)) (pI (stripV (ev st x))):=(rfl)
def lf (st:St):List AE→List AV
 | []=>[]
 | x::r=>ev st x::lf st r
theorem Ar (st:St):∀l,l.map (ev st)=lf st l
 | []=>rfl
 | x::r=>by rw[List.map_cons,Ar st r];rfl
theorem abr (st:St):lf st []=[]∧(∀x r,lf st (x::r)=ev st x::lf st r):=⟨rfl,fun _ _=>rfl⟩
theorem aqC:lI []=true∧(∀i f r,lI (.ab i f::r)=lI r):=⟨rfl,fun _ _ _=>rfl⟩
theorem FV (γ:Bool) (st:St) (f:Nat) (xs:List AE):avalR γ st (.qx f xs)=.ok (lI (lf st xs)=true) (.aK f (lf st xs)):=by rw[←Ar];rfl
theorem Ye (f:Nat) (cs:List AV) (a:AV):keep1 (.aK f cs) a=[]:=(rfl)
theorem Yg (p f g:Nat) (cs:List AV):keep1 (.ab p f) (.aK g cs)=[]:=(rfl)
theorem GH (s:List (Nat×AV)) (h:HP) (k0 f:Nat) (cs:List AV):back1 s h k0 (.aK f cs)=[]:=(rfl)
theorem Kt (k:IntKind) (n:Int):pI (.int k n)=.ok True (.str (Utf8.encode n).data.toList):=(rfl)
theorem abD (t:TypeId):mkiR t (.agg [])=.ok True (.lit (.iface t (.agg #[]))):=(rfl)
theorem abC (t:TypeId) (k:IntKind) (n:Int):mkiR t (.int k n)=.ok True (.lit (.iface t (.int k n))):=(rfl)
theorem abF (id:Nat) (st:St) (sz bytes:Nat) (z:List AV) (n m:Int):mksR id st sz bytes z (.int .i64 n) (.int .i64 m)=.ok (0≤n∧m=n∧n≤16777216∧n*bytes≤16777216∧z.all noRefC=true∧z.length=sz) (.sl id 0 n.toNat) (bM st id (.arr sz (List.replicate n.toNat (packC z)))):=(rfl)
theorem FY (γ:Bool) (st:St) (neg:Bool) (x:AE):avalR γ st (.ir neg x)=andR (aB γ (ev st x)) (pnilR neg (stripV (ev st x))):=(rfl)
theorem ahk (neg:Bool) (x:AV):pnilR neg (.aA x)=.ok True (.bool neg):=(rfl)
theorem ahm (neg:Bool) (i f:Nat):pnilR neg (.ab i f)=.ok True (.bool neg):=(rfl)
theorem ahl (neg:Bool):pnilR neg (.lit (.pointer none))=.ok True (.bool (!neg)):=(rfl)
theorem UF (γ neg:Bool):inilR γ neg (.lit .nilIface)=.ok True (.bool (if neg then false else true)):=by cases neg<;>simp[inilR,isNilV,isIfV]
theorem UE (γ neg:Bool) (t:TypeId) (v:Value):inilR γ neg (.lit (.iface t v))=.ok True (.bool (if neg then true else false)):=by cases neg<;>simp[inilR,isNilV,isIfV]
theorem FX (γ:Bool) (st:St) kd ok z (x i:AE):avalR γ st (.qy kd ok z x i)=andR (aB γ (ev st x)) (andR (aB γ (ev st i)) (mlkR st kd ok z (stripV (ev st x)) (stripV (ev st i)))):=(rfl)
theorem abB (l:List UInt8):mkOf (.str l)=some (.s l):=(rfl)
theorem abA (k:IntKind) (n:Int):mkOf (.int k n)=some (.i k n):=(rfl)
theorem abJ (st:St) kd ok z id i f (x:AV):mlkR st kd ok z (.ptr id i f) x=mlkK st kd ok z id (mkOf x):=(rfl)
theorem abH (st:St) kd ok z id k:mlkK st kd ok z id (some k)=mlkW kd ok z k (hget st.h id):=(rfl)
theorem abK kd ok z k kd' (l:List (MK×AV)):mlkW kd ok z k (some (.mp kd' l))=.ok (kd'=kd∧MK.ok kd k) (nL ok z (mfind l k)):=(rfl)
theorem abQ (z:AV) (o:Option AV):nL true z o=.ai [o.getD z,.bool o.isSome]:=(rfl)
theorem abP (z:AV) (o:Option AV):nL false z o=o.getD z:=(rfl)
theorem D4 (b:List UInt8):MK.ok none (.s b)=True:=(rfl)
theorem D3 (k k':IntKind) (n:Int):MK.ok (some k) (.i k' n)=(k'=k):=(rfl)
theorem abS (st:St) kd id i f (k v:AV):mupR st kd (.ptr id i f) k v=mupK st id kd (mkOf k) v:=(rfl)
theorem abR (st:St) id kd k (v:AV):mupK st id kd (some k) v=mupW st id kd k v (hget st.h id):=(rfl)
theorem abT (st:St) id kd k (v:AV) kd' (l:List (MK×AV)):mupW st id kd k v (some (.mp kd' l))=.ok (kd'=kd∧MK.ok kd k∧bA v=true) .undef ⟨st.s,bx st.h id (.mp kd (mput l k v))⟩:=(rfl)
theorem Nt (id:Nat) (st:St) kd:effR id st (.mw kd)=.ok True (.ptr id 0 0) (bM st id (.mp kd [])):=(rfl)
theorem Nu (id:Nat) (st:St) kd x k v:effR id st (.nM kd x k v)=mupR st kd (ev st x) (ev st k) (ev st v):=(rfl)
theorem anU :
 (∀(γ:Bool) (st:St) (neg:Bool),snilR γ st neg (.aq)=.ok True (.bool (!neg))) ∧
 (∀(γ:Bool) (st:St) (neg:Bool) id o n,snilR γ st neg (.sl id o n)=rl γ neg n (hget st.h id)) ∧
 (∀(γ:Bool) (st:St) (neg:Bool) sz es,snilR γ st neg (.ro sz es)=.ok (γ=true→0<es.length∧0<sz) (.bool neg)):=
 ⟨(fun _ _ _=>rfl),(fun _ _ _ _ _ _=>rfl),(fun _ _ _ _ _=>rfl)⟩
theorem Yq :
 (∀(st:St) (id:Nat) (o:Nat) (n:Nat) sz es,keepSl st id o n (some (.arr sz es))=.ok True (.ro sz (aI es o n)) (freeze st id)):=
 (fun _ _ _ _ _ _=>rfl)
theorem aje :
 (∀(c:Prop) (v:AV) d vs st,rl2 c v (.ok d vs st)=.ok (c∧d) (v::vs) st) ∧
 (∀(c:Prop) (v:AV),rl2 c v (.fail)=.fail):=
 ⟨(fun _ _ _ _ _=>rfl),(fun _ _=>rfl)⟩
theorem ajd :
 (∀(r:List AE) c v st1,uL r (.ok c v st1)=rl2 c v (keepLR r st1)) ∧
 (∀(r:List AE),uL r (.fail)=.fail):=
 ⟨(fun _ _ _ _=>rfl),(fun _=>rfl)⟩
theorem Ij :
 (∀(id:Nat) (sz:Nat) c es st',np id sz (.ok c es st')=.ok (c∧es.all (fun e=>(cellsOf e).length==sz)=true) (.sl id 0 es.length) (bM st' id (.arr sz es))) ∧
 (∀(id:Nat) (sz:Nat),np id sz (.fail)=.fail):=
 ⟨(fun _ _ _ _ _=>rfl),(fun _ _=>rfl)⟩
theorem Fx :
 (∀(st:St) (sz:Nat) (bytes:Nat) (id:Nat) (off:Nat) (n:Nat) (xs:List AV) sz' es,o4 st sz bytes id off n xs (some (.arr sz' es))=.ok (xs.all aP=true∧sz'=sz∧(aI es off n).all aP=true∧(n+xs.length)*bytes≤140737488355328∧n+xs.length≤9223372036854775807) (.sl id 0 (n+xs.length)) (bM st id (.arr sz (aI es off n++xs)))):=
 (fun _ _ _ _ _ _ _ _ _=>rfl)
theorem Fw :
 (∀(d:Nat) (st:St) (sz:Nat) (bytes:Nat) xs,appR d st sz bytes (.aq) (some xs)=.ok (xs.all aP=true∧xs.length*bytes≤140737488355328∧xs.length≤9223372036854775807) (.sl d 0 xs.length) (bM st d (.arr sz xs))) ∧
 (∀(d:Nat) (st:St) (sz:Nat) (bytes:Nat) xs id off n,appR d st sz bytes (.sl id off n) (some xs)=o4 st sz bytes id off n xs (hget st.h id)):=
 ⟨(fun _ _ _ _ _=>rfl),(fun _ _ _ _ _ _ _ _=>rfl)⟩
theorem aop :
 (∀(st:St) (n:Nat) (id:Nat) (i:Nat) (f:Nat) (v:AV) sz es,rr st n id i f v (some (.arr sz es))=.ok ((cellsOf v).length=n∧0<n∧f+n≤sz) .undef ⟨st.s,bx st.h id (.arr sz (es.set i (iw (nth es i) f v)))⟩):=
 (fun _ _ _ _ _ _ _ _=>rfl)
theorem aoj :
 (∀(n:Nat) (id:Nat) (i:Nat) (f:Nat) (c:Prop) (v:AV) (st:St) d u st',oy n id i f c v st (.ok d u st')=.ok (c∧d) u st') ∧
 (∀(n:Nat) (id:Nat) (i:Nat) (f:Nat) (c:Prop) (v:AV) (st:St),oy n id i f c v st (.fail)=.fail):=
 ⟨(fun _ _ _ _ _ _ _ _ _ _=>rfl),(fun _ _ _ _ _ _ _=>rfl)⟩
theorem aok :
 (∀(n:Nat) (id:Nat) (i:Nat) (f:Nat) c v st,ox n id i f (.ok c v st)=oy n id i f c v st (rr st n id i f v (hget st.h id))) ∧
 (∀(n:Nat) (id:Nat) (i:Nat) (f:Nat),ox n id i f (.fail)=.fail):=
 ⟨(fun _ _ _ _ _ _ _=>rfl),(fun _ _ _ _=>rfl)⟩
theorem aoo :
 (∀(st:St) (n:Nat) (id:Nat) (f:Nat) (v:AV) cs,stV st n id f v (some (.var cs))=.ok (aP v=true∧(cellsOf v).length=n∧f+n≤cs.length) .undef ⟨st.s,bx st.h id (.var (bW cs f (cellsOf v)))⟩):=
 (fun _ _ _ _ _ _=>rfl)
theorem aom :
 (∀(st:St) (n:Nat) (v:AV) id i f,stR st n (.ptr id i f) v=ox n id i f (keepR st v)) ∧
 (∀(st:St) (n:Nat) (v:AV) id f,stR st n (.ab id f) v=stV st n id f v (hget st.h id)):=
 ⟨(fun _ _ _ _ _ _=>rfl),(fun _ _ _ _ _=>rfl)⟩
theorem aou :
 (∀(st:St) (id:Nat) l,stbR st id (.str l)=.ok True (.sl id 0 l.length) (bM st id (.arr 1 (l.map ub)))):=
 (fun _ _ _=>rfl)
theorem Ns :
 (∀(id:Nat) (st:St) z,effR id st (.alloc z)=.ok (z.all noRefC=true) (.ab id 0) (bM st id (.var (z.map (killC id))))) ∧
 (∀(id:Nat) (st:St) n x,effR id st (.box n x)=.ok (aP (ev st x)=true∧(cellsOf (ev st x)).length=n) (.ab id 0) (bM st id (.var ((cellsOf (ev st x)).map (killC id))))) ∧
 (∀(id:Nat) (st:St) sz xs,effR id st (.bI sz xs)=np id sz (keepLR xs st)) ∧
 (∀(id:Nat) (st:St) sz bytes s x,effR id st (.app sz bytes s x)=appR id st sz bytes (ev st s) (srcE sz st (ev st x))) ∧
 (∀(id:Nat) (st:St) n x v,effR id st (.st n x v)=stR st n (ev st x) (ev st v)) ∧
 (∀(id:Nat) (st:St) sz b z l c,effR id st (.lh sz b z l c)=mksR id st sz b z (ev st l) (ev st c)) ∧
 (∀(id:Nat) (st:St) x,effR id st (.lz x)=stbR st id (ev st x)):=
 ⟨(fun _ _ _=>rfl),(fun _ _ _ _=>rfl),(fun _ _ _ _=>rfl),(fun _ _ _ _ _ _=>rfl),(fun _ _ _ _ _=>rfl),(fun _ _ _ _ _ _ _=>rfl),(fun _ _ _=>rfl)⟩
attribute [go_sem] FY ahk ahm ahl FX abB abA abJ abH abK abQ abP D4 D3 abS abR abT Nt Nu Option.isSome_some Option.isSome_none Option.getD_some Option.getD_none abr aqC FV Ye Yg GH NY ah6 P9 ab7 Yz PU aiE Yb Up OQ Um OK abZ acC aiD aiC aon aoi aoh Tw Tv amX X9 Yh Yi Yj Yf GC GO GL GN GI EO aod amW IB alV af0 ag9 aha Yp Fa UI aoB OO Kx G3 GV NT T6 NQ NV NU NS NR EL FK apD Ks Jf I3 Kn Il JO aiy Uj aab abN NZ aca Tu Ts amG Z0 ZU ZZ ZY Gz GA GB HH am4 am2 am0 am1 am3 amZ O2 O0 OZ O1 FP G5 G4 FL FQ FT FZ Tq Tp Tt anV anU FU UF UE FW abD abC abF FM Kt Yq aje ajd Ij Fx Fw aop aoj aok aoo aom aou Ns Kq Kp alY alX HT Yn Ym HU Ys Yr YA PM PL PV aiB aiA aiF Yd Yc Ya HX HY GS HQ HV acb OJ Ws ace acd OH OP Pb Pa OL Ul Uk Uo aoF aoE
end Go.Proofs.YtoalcafkffmiiaaGreatDoor.Eng
