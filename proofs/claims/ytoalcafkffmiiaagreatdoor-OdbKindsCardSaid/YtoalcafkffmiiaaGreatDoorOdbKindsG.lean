/- The proof, part 7 of 42. -/
import Derived.Test.YtoalcafkffmiiaaGreatDoorOdbKindsF
set_option linter.all false
namespace Go.Proofs.YtoalcafkffmiiaaGreatDoor.Eng
def cu (b:Bool) (x:AV):AV:=match b with
 | true=>.undef
 | false=>x
def iT (b:Bool) (x y:AV):AV:=match b with
 | true=>x
 | false=>y
theorem eW {i j:Nat} {x:AV}:(if i=j then AV.undef else x)=cu (i==j) x:=by
 by_cases h:i=j
 ·subst h;rw[if_pos rfl,show(i==i)=true by simp];rfl
 ·rw[if_neg h,show(i==j)=false by simp[h]];rfl
theorem tu {i j:Nat} {x y:AV}:(if i=j then x else y)=iT (i==j) x y:=by
 by_cases h:i=j
 ·subst h;rw[if_pos rfl,show(i==i)=true by simp];rfl
 ·rw[if_neg h,show(i==j)=false by simp[h]];rfl
theorem jh {b:Bool} {x:AV}:(if b=true then AV.undef else x)=cu b x:=by cases b<;>rfl
theorem tw {b:Bool} {x y:AV}:(if b=true then x else y)=iT b x y:=by cases b<;>rfl
theorem JO {x:AV}:cu true x=.undef:=(rfl)
theorem JN {x:AV}:cu false x=x:=(rfl)
theorem ajK {x y:AV}:iT true x y=x:=(rfl)
theorem ajJ {x y:AV}:iT false x y=y:=(rfl)
def borSl (W:Option aF) (o n:Nat):AV:=match W with
 | some (.arr sz es)=>.ro sz (aG es o n)
 | _=>.undef
theorem Hi {sz o n:Nat} {es:List AV}:borSl (some (.arr sz es)) o n=.ro sz (aG es o n):=(rfl)
def keepO (W:Option aF) (x y:AV):AV:=match W with
 | some _=>x
 | none=>y
theorem XH {W:aF} {x y:AV}:keepO (some W) x y=x:=(rfl)
theorem XG {x y:AV}:keepO none x y=y:=(rfl)
def borV (h0 h:HP) (W:Option aF) (f:Nat):AV:=match W,f with
 | some (.var cs),0=>.aA (packC (cs.map (bcell h0 h)))
 | _,_=>.undef
theorem Hj {h0 h:HP} {cs:List AV}:borV h0 h (some (.var cs)) 0=.aA (packC (cs.map (bcell h0 h))):=(rfl)
theorem XM (id:Nat) :
 (killC id AV.undef=AV.undef) ∧
 (∀(b:Bool),killC id (.bool b)=(.bool b)) ∧
 (∀(k:IntKind) (n:Int),killC id (.int k n)=(.int k n)) ∧
 (∀(k:FloatKind) (n:Nat),killC id (.fl k n)=(.fl k n)) ∧
 (∀(k:FloatKind) (a b:Nat),killC id (.cx k a b)=(.cx k a b)) ∧
 (∀(l:List UInt8),killC id (.str l)=(.str l)) ∧
 (∀(x:Value),killC id (.lit x)=(.lit x)) ∧
 (killC id AV.aq=AV.aq) ∧
 (∀(sz0:Nat) (es0:List AV),killC id (.ro sz0 es0)=(.ro sz0 es0)) ∧
 (∀(x:AV),killC id (.aA x)=(.aA x)) ∧
 (∀(i o n:Nat),killC id (.sl i o n)=cu (i==id) (.sl i o n)) ∧
 (∀(i j f:Nat),killC id (.ptr i j f)=cu (i==id) (.ptr i j f)) ∧
 (∀(i f:Nat),killC id (.ab i f)=cu (i==id) (.ab i f)) ∧
 (∀(cs:List AV),killC id (.agg cs)=AV.undef) ∧
 (∀(cs:List AV),killC id (.ai cs)=AV.undef) ∧
 (∀(b:Bool) (x:AV),killC id (.gd b x)=AV.undef) ∧
 (∀(f:Nat) (cs:List AV),killC id (.aJ f cs)=AV.undef):=
 ⟨rfl,fun _=>rfl,fun _ _=>rfl,fun _ _=>rfl,fun _ _ _=>rfl,fun _=>rfl,fun _=>rfl,rfl,fun _ _=>rfl,fun _=>rfl,fun _ _ _=>eW,fun _ _ _=>eW,fun _ _=>eW,fun _=>rfl,fun _=>rfl,fun _ _=>rfl,fun _ _=>rfl⟩
theorem XL (id:Nat) :
 (killA id AV.undef=AV.undef) ∧
 (∀(b:Bool),killA id (.bool b)=(.bool b)) ∧
 (∀(k:IntKind) (n:Int),killA id (.int k n)=(.int k n)) ∧
 (∀(k:FloatKind) (n:Nat),killA id (.fl k n)=(.fl k n)) ∧
 (∀(k:FloatKind) (a b:Nat),killA id (.cx k a b)=(.cx k a b)) ∧
 (∀(l:List UInt8),killA id (.str l)=(.str l)) ∧
 (∀(x:Value),killA id (.lit x)=(.lit x)) ∧
 (killA id AV.aq=AV.aq) ∧
 (∀(sz0:Nat) (es0:List AV),killA id (.ro sz0 es0)=(.ro sz0 es0)) ∧
 (∀(x:AV),killA id (.aA x)=(.aA x)) ∧
 (∀(i o n:Nat),killA id (.sl i o n)=cu (i==id) (.sl i o n)) ∧
 (∀(i j f:Nat),killA id (.ptr i j f)=cu (i==id) (.ptr i j f)) ∧
 (∀(i f:Nat),killA id (.ab i f)=cu (i==id) (.ab i f)) ∧
 (∀(cs:List AV),killA id (.agg cs)=.agg (cs.map (killC id))) ∧
 (∀(cs:List AV),killA id (.ai cs)=AV.undef) ∧
 (∀(b:Bool) (x:AV),killA id (.gd b x)=AV.undef) ∧
 (∀(f:Nat) (cs:List AV),killA id (.aJ f cs)=.aJ f (cs.map (killC id))):=
 ⟨rfl,fun _=>rfl,fun _ _=>rfl,fun _ _=>rfl,fun _ _ _=>rfl,fun _=>rfl,fun _=>rfl,rfl,fun _ _=>rfl,fun _=>rfl,fun _ _ _=>eW,fun _ _ _=>eW,fun _ _=>eW,fun _=>rfl,fun _=>rfl,fun _ _=>rfl,fun _ _=>rfl⟩
theorem XU (id:Nat) :
 (kill id AV.undef=AV.undef) ∧
 (∀(b:Bool),kill id (.bool b)=(.bool b)) ∧
 (∀(k:IntKind) (n:Int),kill id (.int k n)=(.int k n)) ∧
 (∀(k:FloatKind) (n:Nat),kill id (.fl k n)=(.fl k n)) ∧
 (∀(k:FloatKind) (a b:Nat),kill id (.cx k a b)=(.cx k a b)) ∧
 (∀(l:List UInt8),kill id (.str l)=(.str l)) ∧
 (∀(x:Value),kill id (.lit x)=(.lit x)) ∧
 (kill id AV.aq=AV.aq) ∧
 (∀(sz0:Nat) (es0:List AV),kill id (.ro sz0 es0)=(.ro sz0 es0)) ∧
 (∀(x:AV),kill id (.aA x)=(.aA x)) ∧
 (∀(i o n:Nat),kill id (.sl i o n)=cu (i==id) (.sl i o n)) ∧
 (∀(i j f:Nat),kill id (.ptr i j f)=cu (i==id) (.ptr i j f)) ∧
 (∀(i f:Nat),kill id (.ab i f)=cu (i==id) (.ab i f)) ∧
 (∀(cs:List AV),kill id (.agg cs)=.agg (cs.map (killC id))) ∧
 (∀(cs:List AV),kill id (.ai cs)=.ai (cs.map (killA id))) ∧
 (∀(b:Bool) (x:AV),kill id (.gd b x)=.gd b (killA id x)) ∧
 (∀(f:Nat) (cs:List AV),kill id (.aJ f cs)=.aJ f (cs.map (killC id))):=
 ⟨rfl,fun _=>rfl,fun _ _=>rfl,fun _ _=>rfl,fun _ _ _=>rfl,fun _=>rfl,fun _=>rfl,rfl,fun _ _=>rfl,fun _=>rfl,fun _ _ _=>eW,fun _ _ _=>eW,fun _ _=>eW,fun _=>rfl,fun _=>rfl,fun _ _=>rfl,fun _ _=>rfl⟩
theorem O4 (id sz:Nat) (es:List AV) :
 (bQ id sz es AV.undef=AV.undef) ∧
 (∀(b:Bool),bQ id sz es (.bool b)=(.bool b)) ∧
 (∀(k:IntKind) (n:Int),bQ id sz es (.int k n)=(.int k n)) ∧
 (∀(k:FloatKind) (n:Nat),bQ id sz es (.fl k n)=(.fl k n)) ∧
 (∀(k:FloatKind) (a b:Nat),bQ id sz es (.cx k a b)=(.cx k a b)) ∧
 (∀(l:List UInt8),bQ id sz es (.str l)=(.str l)) ∧
 (∀(x:Value),bQ id sz es (.lit x)=(.lit x)) ∧
 (bQ id sz es AV.aq=AV.aq) ∧
 (∀(sz0:Nat) (es0:List AV),bQ id sz es (.ro sz0 es0)=(.ro sz0 es0)) ∧
 (∀(x:AV),bQ id sz es (.aA x)=(.aA x)) ∧
 (∀(i o n:Nat),bQ id sz es (.sl i o n)=iT (i==id) (.ro sz (aG es o n)) (.sl i o n)) ∧
 (∀(i j f:Nat),bQ id sz es (.ptr i j f)=cu (i==id) (.ptr i j f)) ∧
 (∀(i f:Nat),bQ id sz es (.ab i f)=cu (i==id) (.ab i f)) ∧
 (∀(cs:List AV),bQ id sz es (.agg cs)=AV.undef) ∧
 (∀(cs:List AV),bQ id sz es (.ai cs)=AV.undef) ∧
 (∀(b:Bool) (x:AV),bQ id sz es (.gd b x)=AV.undef) ∧
 (∀(f:Nat) (cs:List AV),bQ id sz es (.aJ f cs)=AV.undef):=
 ⟨rfl,fun _=>rfl,fun _ _=>rfl,fun _ _=>rfl,fun _ _ _=>rfl,fun _=>rfl,fun _=>rfl,rfl,fun _ _=>rfl,fun _=>rfl,fun _ _ _=>tu,fun _ _ _=>eW,fun _ _=>eW,fun _=>rfl,fun _=>rfl,fun _ _=>rfl,fun _ _=>rfl⟩
theorem O3 (id sz:Nat) (es:List AV) :
 (cB id sz es AV.undef=AV.undef) ∧
 (∀(b:Bool),cB id sz es (.bool b)=(.bool b)) ∧
 (∀(k:IntKind) (n:Int),cB id sz es (.int k n)=(.int k n)) ∧
 (∀(k:FloatKind) (n:Nat),cB id sz es (.fl k n)=(.fl k n)) ∧
 (∀(k:FloatKind) (a b:Nat),cB id sz es (.cx k a b)=(.cx k a b)) ∧
 (∀(l:List UInt8),cB id sz es (.str l)=(.str l)) ∧
 (∀(x:Value),cB id sz es (.lit x)=(.lit x)) ∧
 (cB id sz es AV.aq=AV.aq) ∧
 (∀(sz0:Nat) (es0:List AV),cB id sz es (.ro sz0 es0)=(.ro sz0 es0)) ∧
 (∀(x:AV),cB id sz es (.aA x)=(.aA x)) ∧
 (∀(i o n:Nat),cB id sz es (.sl i o n)=iT (i==id) (.ro sz (aG es o n)) (.sl i o n)) ∧
 (∀(i j f:Nat),cB id sz es (.ptr i j f)=cu (i==id) (.ptr i j f)) ∧
 (∀(i f:Nat),cB id sz es (.ab i f)=cu (i==id) (.ab i f)) ∧
 (∀(cs:List AV),cB id sz es (.agg cs)=.agg (cs.map (bQ id sz es))) ∧
 (∀(cs:List AV),cB id sz es (.ai cs)=AV.undef) ∧
 (∀(b:Bool) (x:AV),cB id sz es (.gd b x)=AV.undef) ∧
 (∀(f:Nat) (cs:List AV),cB id sz es (.aJ f cs)=.aJ f (cs.map (bQ id sz es))):=
 ⟨rfl,fun _=>rfl,fun _ _=>rfl,fun _ _=>rfl,fun _ _ _=>rfl,fun _=>rfl,fun _=>rfl,rfl,fun _ _=>rfl,fun _=>rfl,fun _ _ _=>tu,fun _ _ _=>eW,fun _ _=>eW,fun _=>rfl,fun _=>rfl,fun _ _=>rfl,fun _ _=>rfl⟩
theorem Pb (id sz:Nat) (es:List AV) :
 (bG id sz es AV.undef=AV.undef) ∧
 (∀(b:Bool),bG id sz es (.bool b)=(.bool b)) ∧
 (∀(k:IntKind) (n:Int),bG id sz es (.int k n)=(.int k n)) ∧
 (∀(k:FloatKind) (n:Nat),bG id sz es (.fl k n)=(.fl k n)) ∧
 (∀(k:FloatKind) (a b:Nat),bG id sz es (.cx k a b)=(.cx k a b)) ∧
 (∀(l:List UInt8),bG id sz es (.str l)=(.str l)) ∧
 (∀(x:Value),bG id sz es (.lit x)=(.lit x)) ∧
 (bG id sz es AV.aq=AV.aq) ∧
 (∀(sz0:Nat) (es0:List AV),bG id sz es (.ro sz0 es0)=(.ro sz0 es0)) ∧
 (∀(x:AV),bG id sz es (.aA x)=(.aA x)) ∧
 (∀(i o n:Nat),bG id sz es (.sl i o n)=iT (i==id) (.ro sz (aG es o n)) (.sl i o n)) ∧
 (∀(i j f:Nat),bG id sz es (.ptr i j f)=cu (i==id) (.ptr i j f)) ∧
 (∀(i f:Nat),bG id sz es (.ab i f)=cu (i==id) (.ab i f)) ∧
 (∀(cs:List AV),bG id sz es (.agg cs)=.agg (cs.map (bQ id sz es))) ∧
 (∀(cs:List AV),bG id sz es (.ai cs)=.ai (cs.map (cB id sz es))) ∧
 (∀(b:Bool) (x:AV),bG id sz es (.gd b x)=.gd b (cB id sz es x)) ∧
 (∀(f:Nat) (cs:List AV),bG id sz es (.aJ f cs)=.aJ f (cs.map (bQ id sz es))):=
 ⟨rfl,fun _=>rfl,fun _ _=>rfl,fun _ _=>rfl,fun _ _ _=>rfl,fun _=>rfl,fun _=>rfl,rfl,fun _ _=>rfl,fun _=>rfl,fun _ _ _=>tu,fun _ _ _=>eW,fun _ _=>eW,fun _=>rfl,fun _=>rfl,fun _ _=>rfl,fun _ _=>rfl⟩
theorem aik (id id':Nat) :
 (bR id id' AV.undef=AV.undef) ∧
 (∀(b:Bool),bR id id' (.bool b)=(.bool b)) ∧
 (∀(k:IntKind) (n:Int),bR id id' (.int k n)=(.int k n)) ∧
 (∀(k:FloatKind) (n:Nat),bR id id' (.fl k n)=(.fl k n)) ∧
 (∀(k:FloatKind) (a b:Nat),bR id id' (.cx k a b)=(.cx k a b)) ∧
 (∀(l:List UInt8),bR id id' (.str l)=(.str l)) ∧
 (∀(x:Value),bR id id' (.lit x)=(.lit x)) ∧
 (bR id id' AV.aq=AV.aq) ∧
 (∀(sz0:Nat) (es0:List AV),bR id id' (.ro sz0 es0)=(.ro sz0 es0)) ∧
 (∀(x:AV),bR id id' (.aA x)=(.aA x)) ∧
 (∀(i o n:Nat),bR id id' (.sl i o n)=.sl (rn id id' i) o n) ∧
 (∀(i j f:Nat),bR id id' (.ptr i j f)=.ptr (rn id id' i) j f) ∧
 (∀(i f:Nat),bR id id' (.ab i f)=.ab (rn id id' i) f) ∧
 (∀(cs:List AV),bR id id' (.agg cs)=AV.undef) ∧
 (∀(cs:List AV),bR id id' (.ai cs)=AV.undef) ∧
 (∀(b:Bool) (x:AV),bR id id' (.gd b x)=AV.undef) ∧
 (∀(f:Nat) (cs:List AV),bR id id' (.aJ f cs)=AV.undef):=
 ⟨rfl,fun _=>rfl,fun _ _=>rfl,fun _ _=>rfl,fun _ _ _=>rfl,fun _=>rfl,fun _=>rfl,rfl,fun _ _=>rfl,fun _=>rfl,fun _ _ _=>rfl,fun _ _ _=>rfl,fun _ _=>rfl,fun _=>rfl,fun _=>rfl,fun _ _=>rfl,fun _ _=>rfl⟩
theorem aij (id id':Nat) :
 (cy id id' AV.undef=AV.undef) ∧
 (∀(b:Bool),cy id id' (.bool b)=(.bool b)) ∧
 (∀(k:IntKind) (n:Int),cy id id' (.int k n)=(.int k n)) ∧
 (∀(k:FloatKind) (n:Nat),cy id id' (.fl k n)=(.fl k n)) ∧
 (∀(k:FloatKind) (a b:Nat),cy id id' (.cx k a b)=(.cx k a b)) ∧
 (∀(l:List UInt8),cy id id' (.str l)=(.str l)) ∧
 (∀(x:Value),cy id id' (.lit x)=(.lit x)) ∧
 (cy id id' AV.aq=AV.aq) ∧
 (∀(sz0:Nat) (es0:List AV),cy id id' (.ro sz0 es0)=(.ro sz0 es0)) ∧
 (∀(x:AV),cy id id' (.aA x)=(.aA x)) ∧
 (∀(i o n:Nat),cy id id' (.sl i o n)=.sl (rn id id' i) o n) ∧
 (∀(i j f:Nat),cy id id' (.ptr i j f)=.ptr (rn id id' i) j f) ∧
 (∀(i f:Nat),cy id id' (.ab i f)=.ab (rn id id' i) f) ∧
 (∀(cs:List AV),cy id id' (.agg cs)=.agg (cs.map (bR id id'))) ∧
 (∀(cs:List AV),cy id id' (.ai cs)=AV.undef) ∧
 (∀(b:Bool) (x:AV),cy id id' (.gd b x)=AV.undef) ∧
 (∀(f:Nat) (cs:List AV),cy id id' (.aJ f cs)=.aJ f (cs.map (bR id id'))):=
 ⟨rfl,fun _=>rfl,fun _ _=>rfl,fun _ _=>rfl,fun _ _ _=>rfl,fun _=>rfl,fun _=>rfl,rfl,fun _ _=>rfl,fun _=>rfl,fun _ _ _=>rfl,fun _ _ _=>rfl,fun _ _=>rfl,fun _=>rfl,fun _=>rfl,fun _ _=>rfl,fun _ _=>rfl⟩
theorem aio (id id':Nat) :
 (de id id' AV.undef=AV.undef) ∧
 (∀(b:Bool),de id id' (.bool b)=(.bool b)) ∧
 (∀(k:IntKind) (n:Int),de id id' (.int k n)=(.int k n)) ∧
 (∀(k:FloatKind) (n:Nat),de id id' (.fl k n)=(.fl k n)) ∧
 (∀(k:FloatKind) (a b:Nat),de id id' (.cx k a b)=(.cx k a b)) ∧
 (∀(l:List UInt8),de id id' (.str l)=(.str l)) ∧
 (∀(x:Value),de id id' (.lit x)=(.lit x)) ∧
 (de id id' AV.aq=AV.aq) ∧
 (∀(sz0:Nat) (es0:List AV),de id id' (.ro sz0 es0)=(.ro sz0 es0)) ∧
 (∀(x:AV),de id id' (.aA x)=(.aA x)) ∧
 (∀(i o n:Nat),de id id' (.sl i o n)=.sl (rn id id' i) o n) ∧
 (∀(i j f:Nat),de id id' (.ptr i j f)=.ptr (rn id id' i) j f) ∧
 (∀(i f:Nat),de id id' (.ab i f)=.ab (rn id id' i) f) ∧
 (∀(cs:List AV),de id id' (.agg cs)=.agg (cs.map (bR id id'))) ∧
 (∀(cs:List AV),de id id' (.ai cs)=.ai (cs.map (cy id id'))) ∧
 (∀(b:Bool) (x:AV),de id id' (.gd b x)=.gd b (cy id id' x)) ∧
 (∀(f:Nat) (cs:List AV),de id id' (.aJ f cs)=.aJ f (cs.map (bR id id'))):=
 ⟨rfl,fun _=>rfl,fun _ _=>rfl,fun _ _=>rfl,fun _ _ _=>rfl,fun _=>rfl,fun _=>rfl,rfl,fun _ _=>rfl,fun _=>rfl,fun _ _ _=>rfl,fun _ _ _=>rfl,fun _ _=>rfl,fun _=>rfl,fun _=>rfl,fun _ _=>rfl,fun _ _=>rfl⟩
theorem Xx (ids keep:List Nat) :
 (b5 ids keep AV.undef=AV.undef) ∧
 (∀(b:Bool),b5 ids keep (.bool b)=(.bool b)) ∧
 (∀(k:IntKind) (n:Int),b5 ids keep (.int k n)=(.int k n)) ∧
 (∀(k:FloatKind) (n:Nat),b5 ids keep (.fl k n)=(.fl k n)) ∧
 (∀(k:FloatKind) (a b:Nat),b5 ids keep (.cx k a b)=(.cx k a b)) ∧
 (∀(l:List UInt8),b5 ids keep (.str l)=(.str l)) ∧
 (∀(x:Value),b5 ids keep (.lit x)=(.lit x)) ∧
 (b5 ids keep AV.aq=AV.aq) ∧
 (∀(sz0:Nat) (es0:List AV),b5 ids keep (.ro sz0 es0)=(.ro sz0 es0)) ∧
 (∀(x:AV),b5 ids keep (.aA x)=(.aA x)) ∧
 (∀(i o n:Nat),b5 ids keep (.sl i o n)=cu (memN i ids) (.sl i o n)) ∧
 (∀(i j f:Nat),b5 ids keep (.ptr i j f)=cu (memN i ids) (.ptr i j f)) ∧
 (∀(i f:Nat),b5 ids keep (.ab i f)=iT (memN i keep) (.ab i f) (cu (memN i ids) (.ab i f))) ∧
 (∀(cs:List AV),b5 ids keep (.agg cs)=AV.undef) ∧
 (∀(cs:List AV),b5 ids keep (.ai cs)=AV.undef) ∧
 (∀(b:Bool) (x:AV),b5 ids keep (.gd b x)=AV.undef) ∧
 (∀(f:Nat) (cs:List AV),b5 ids keep (.aJ f cs)=AV.undef):=
 ⟨rfl,fun _=>rfl,fun _ _=>rfl,fun _ _=>rfl,fun _ _ _=>rfl,fun _=>rfl,fun _=>rfl,rfl,fun _ _=>rfl,fun _=>rfl,fun _ _ _=>jh,fun _ _ _=>jh,fun _ _=>(by rw[←jh,←tw];rfl),fun _=>rfl,fun _=>rfl,fun _ _=>rfl,fun _ _=>rfl⟩
theorem Xw (ids keep:List Nat) :
 (cC ids keep AV.undef=AV.undef) ∧
 (∀(b:Bool),cC ids keep (.bool b)=(.bool b)) ∧
 (∀(k:IntKind) (n:Int),cC ids keep (.int k n)=(.int k n)) ∧
 (∀(k:FloatKind) (n:Nat),cC ids keep (.fl k n)=(.fl k n)) ∧
 (∀(k:FloatKind) (a b:Nat),cC ids keep (.cx k a b)=(.cx k a b)) ∧
 (∀(l:List UInt8),cC ids keep (.str l)=(.str l)) ∧
 (∀(x:Value),cC ids keep (.lit x)=(.lit x)) ∧
 (cC ids keep AV.aq=AV.aq) ∧
 (∀(sz0:Nat) (es0:List AV),cC ids keep (.ro sz0 es0)=(.ro sz0 es0)) ∧
 (∀(x:AV),cC ids keep (.aA x)=(.aA x)) ∧
 (∀(i o n:Nat),cC ids keep (.sl i o n)=cu (memN i ids) (.sl i o n)) ∧
 (∀(i j f:Nat),cC ids keep (.ptr i j f)=cu (memN i ids) (.ptr i j f)) ∧
 (∀(i f:Nat),cC ids keep (.ab i f)=iT (memN i keep) (.ab i f) (cu (memN i ids) (.ab i f))) ∧
 (∀(cs:List AV),cC ids keep (.agg cs)=.agg (cs.map (b5 ids keep))) ∧
 (∀(cs:List AV),cC ids keep (.ai cs)=AV.undef) ∧
 (∀(b:Bool) (x:AV),cC ids keep (.gd b x)=AV.undef) ∧
 (∀(f:Nat) (cs:List AV),cC ids keep (.aJ f cs)=.aJ f (cs.map (b5 ids keep))):=
 ⟨rfl,fun _=>rfl,fun _ _=>rfl,fun _ _=>rfl,fun _ _ _=>rfl,fun _=>rfl,fun _=>rfl,rfl,fun _ _=>rfl,fun _=>rfl,fun _ _ _=>jh,fun _ _ _=>jh,fun _ _=>(by rw[←jh,←tw];rfl),fun _=>rfl,fun _=>rfl,fun _ _=>rfl,fun _ _=>rfl⟩
theorem Xu (ids keep:List Nat) :
 (kI ids keep AV.undef=AV.undef) ∧
 (∀(b:Bool),kI ids keep (.bool b)=(.bool b)) ∧
 (∀(k:IntKind) (n:Int),kI ids keep (.int k n)=(.int k n)) ∧
 (∀(k:FloatKind) (n:Nat),kI ids keep (.fl k n)=(.fl k n)) ∧
 (∀(k:FloatKind) (a b:Nat),kI ids keep (.cx k a b)=(.cx k a b)) ∧
 (∀(l:List UInt8),kI ids keep (.str l)=(.str l)) ∧
 (∀(x:Value),kI ids keep (.lit x)=(.lit x)) ∧
 (kI ids keep AV.aq=AV.aq) ∧
 (∀(sz0:Nat) (es0:List AV),kI ids keep (.ro sz0 es0)=(.ro sz0 es0)) ∧
 (∀(x:AV),kI ids keep (.aA x)=(.aA x)) ∧
 (∀(i o n:Nat),kI ids keep (.sl i o n)=cu (memN i ids) (.sl i o n)) ∧
 (∀(i j f:Nat),kI ids keep (.ptr i j f)=cu (memN i ids) (.ptr i j f)) ∧
 (∀(i f:Nat),kI ids keep (.ab i f)=iT (memN i keep) (.ab i f) (cu (memN i ids) (.ab i f))) ∧
 (∀(cs:List AV),kI ids keep (.agg cs)=.agg (cs.map (b5 ids keep))) ∧
 (∀(cs:List AV),kI ids keep (.ai cs)=.ai (cs.map (cC ids keep))) ∧
 (∀(b:Bool) (x:AV),kI ids keep (.gd b x)=.gd b (cC ids keep x)) ∧
 (∀(f:Nat) (cs:List AV),kI ids keep (.aJ f cs)=.aJ f (cs.map (b5 ids keep))):=
 ⟨rfl,fun _=>rfl,fun _ _=>rfl,fun _ _=>rfl,fun _ _ _=>rfl,fun _=>rfl,fun _=>rfl,rfl,fun _ _=>rfl,fun _=>rfl,fun _ _ _=>jh,fun _ _ _=>jh,fun _ _=>(by rw[←jh,←tw];rfl),fun _=>rfl,fun _=>rfl,fun _ _=>rfl,fun _ _=>rfl⟩
theorem Hm (h:HP) :
 (borrowC h AV.undef=AV.undef) ∧
 (∀(b:Bool),borrowC h (.bool b)=(.bool b)) ∧
 (∀(k:IntKind) (n:Int),borrowC h (.int k n)=(.int k n)) ∧
 (∀(k:FloatKind) (n:Nat),borrowC h (.fl k n)=(.fl k n)) ∧
 (∀(k:FloatKind) (a b:Nat),borrowC h (.cx k a b)=(.cx k a b)) ∧
 (∀(l:List UInt8),borrowC h (.str l)=(.str l)) ∧
 (∀(x:Value),borrowC h (.lit x)=(.lit x)) ∧
 (borrowC h AV.aq=AV.aq) ∧
 (∀(sz0:Nat) (es0:List AV),borrowC h (.ro sz0 es0)=(.ro sz0 es0)) ∧
 (∀(x:AV),borrowC h (.aA x)=(.aA x)) ∧
 (∀(i o n:Nat),borrowC h (.sl i o n)=borSl (hget h i) o n) ∧
 (∀(i j f:Nat),borrowC h (.ptr i j f)=AV.undef) ∧
 (∀(i f:Nat),borrowC h (.ab i f)=AV.undef) ∧
 (∀(cs:List AV),borrowC h (.agg cs)=AV.undef) ∧
 (∀(cs:List AV),borrowC h (.ai cs)=AV.undef) ∧
 (∀(b:Bool) (x:AV),borrowC h (.gd b x)=AV.undef) ∧
 (∀(f:Nat) (cs:List AV),borrowC h (.aJ f cs)=AV.undef):=
 ⟨rfl,fun _=>rfl,fun _ _=>rfl,fun _ _=>rfl,fun _ _ _=>rfl,fun _=>rfl,fun _=>rfl,rfl,fun _ _=>rfl,fun _=>rfl,fun _ _ _=>(by simp only[borrowC,borSl];split<;>simp_all),fun _ _ _=>rfl,fun _ _=>rfl,fun _=>rfl,fun _=>rfl,fun _ _=>rfl,fun _ _=>rfl⟩
theorem Hn (h:HP) :
 (borrow h AV.undef=AV.undef) ∧
 (∀(b:Bool),borrow h (.bool b)=(.bool b)) ∧
 (∀(k:IntKind) (n:Int),borrow h (.int k n)=(.int k n)) ∧
 (∀(k:FloatKind) (n:Nat),borrow h (.fl k n)=(.fl k n)) ∧
 (∀(k:FloatKind) (a b:Nat),borrow h (.cx k a b)=(.cx k a b)) ∧
 (∀(l:List UInt8),borrow h (.str l)=(.str l)) ∧
 (∀(x:Value),borrow h (.lit x)=(.lit x)) ∧
 (borrow h AV.aq=AV.aq) ∧
 (∀(sz0:Nat) (es0:List AV),borrow h (.ro sz0 es0)=(.ro sz0 es0)) ∧
 (∀(x:AV),borrow h (.aA x)=(.aA x)) ∧
 (∀(i o n:Nat),borrow h (.sl i o n)=borSl (hget h i) o n) ∧
 (∀(i j f:Nat),borrow h (.ptr i j f)=AV.undef) ∧
 (∀(i f:Nat),borrow h (.ab i f)=AV.undef) ∧
 (∀(cs:List AV),borrow h (.agg cs)=.agg (cs.map (borrowC h))) ∧
 (∀(cs:List AV),borrow h (.ai cs)=AV.undef) ∧
 (∀(b:Bool) (x:AV),borrow h (.gd b x)=AV.undef) ∧
 (∀(f:Nat) (cs:List AV),borrow h (.aJ f cs)=AV.undef):=
 ⟨rfl,fun _=>rfl,fun _ _=>rfl,fun _ _=>rfl,fun _ _ _=>rfl,fun _=>rfl,fun _=>rfl,rfl,fun _ _=>rfl,fun _=>rfl,fun _ _ _=>(by simp only[borrow,borrowC,borSl];split<;>simp_all),fun _ _ _=>rfl,fun _ _=>rfl,fun _=>rfl,fun _=>rfl,fun _ _=>rfl,fun _ _=>rfl⟩
theorem Ge (h0 h:HP) :
 (bcell h0 h AV.undef=AV.undef) ∧
 (∀(b:Bool),bcell h0 h (.bool b)=(.bool b)) ∧
 (∀(k:IntKind) (n:Int),bcell h0 h (.int k n)=(.int k n)) ∧
 (∀(k:FloatKind) (n:Nat),bcell h0 h (.fl k n)=(.fl k n)) ∧
 (∀(k:FloatKind) (a b:Nat),bcell h0 h (.cx k a b)=(.cx k a b)) ∧
 (∀(l:List UInt8),bcell h0 h (.str l)=(.str l)) ∧
 (∀(x:Value),bcell h0 h (.lit x)=(.lit x)) ∧
 (bcell h0 h AV.aq=AV.aq) ∧
 (∀(sz0:Nat) (es0:List AV),bcell h0 h (.ro sz0 es0)=(.ro sz0 es0)) ∧
 (∀(x:AV),bcell h0 h (.aA x)=(.aA x)) ∧
 (∀(i o n:Nat),bcell h0 h (.sl i o n)=keepO (hget h0 i) AV.undef (borSl (hget h i) o n)) ∧
 (∀(i j f:Nat),bcell h0 h (.ptr i j f)=AV.undef) ∧
 (∀(i f:Nat),bcell h0 h (.ab i f)=AV.undef) ∧
 (∀(cs:List AV),bcell h0 h (.agg cs)=AV.undef) ∧
 (∀(cs:List AV),bcell h0 h (.ai cs)=AV.undef) ∧
 (∀(b:Bool) (x:AV),bcell h0 h (.gd b x)=AV.undef) ∧
 (∀(f:Nat) (cs:List AV),bcell h0 h (.aJ f cs)=AV.undef):=
 ⟨rfl,fun _=>rfl,fun _ _=>rfl,fun _ _=>rfl,fun _ _ _=>rfl,fun _=>rfl,fun _=>rfl,rfl,fun _ _=>rfl,fun _=>rfl,fun _ _ _=>(by simp only[bcell,borrowC,borSl,keepO];split<;>(try split)<;>simp_all),fun _ _ _=>rfl,fun _ _=>rfl,fun _=>rfl,fun _=>rfl,fun _ _=>rfl,fun _ _=>rfl⟩
theorem He (h0 h:HP) :
 (borC h0 h AV.undef=AV.undef) ∧
 (∀(b:Bool),borC h0 h (.bool b)=(.bool b)) ∧
 (∀(k:IntKind) (n:Int),borC h0 h (.int k n)=(.int k n)) ∧
 (∀(k:FloatKind) (n:Nat),borC h0 h (.fl k n)=(.fl k n)) ∧
 (∀(k:FloatKind) (a b:Nat),borC h0 h (.cx k a b)=(.cx k a b)) ∧
 (∀(l:List UInt8),borC h0 h (.str l)=(.str l)) ∧
 (∀(x:Value),borC h0 h (.lit x)=(.lit x)) ∧
 (borC h0 h AV.aq=AV.aq) ∧
 (∀(sz0:Nat) (es0:List AV),borC h0 h (.ro sz0 es0)=(.ro sz0 es0)) ∧
 (∀(x:AV),borC h0 h (.aA x)=(.aA x)) ∧
 (∀(i o n:Nat),borC h0 h (.sl i o n)=keepO (hget h0 i) (.sl i o n) (borSl (hget h i) o n)) ∧
 (∀(i j f:Nat),borC h0 h (.ptr i j f)=keepO (hget h0 i) (.ptr i j f) AV.undef) ∧
 (∀(i f:Nat),borC h0 h (.ab i f)=keepO (hget h0 i) (.ab i f) (borV h0 h (hget h i) f)) ∧
 (∀(cs:List AV),borC h0 h (.agg cs)=AV.undef) ∧
 (∀(cs:List AV),borC h0 h (.ai cs)=AV.undef) ∧
 (∀(b:Bool) (x:AV),borC h0 h (.gd b x)=AV.undef) ∧
 (∀(f:Nat) (cs:List AV),borC h0 h (.aJ f cs)=AV.undef):=
 ⟨rfl,fun _=>rfl,fun _ _=>rfl,fun _ _=>rfl,fun _ _ _=>rfl,fun _=>rfl,fun _=>rfl,rfl,fun _ _=>rfl,fun _=>rfl,fun _ _ _=>(by simp only[borC,borrowC,borSl,keepO];split<;>(try split)<;>simp_all),fun _ _ _=>(by simp only[borC,keepO];rfl),fun _ _=>(by simp only[borC,borV,keepO];rfl),fun _=>rfl,fun _=>rfl,fun _ _=>rfl,fun _ _=>rfl⟩
theorem Hk (h0 h:HP) :
 (bor h0 h AV.undef=AV.undef) ∧
 (∀(b:Bool),bor h0 h (.bool b)=(.bool b)) ∧
 (∀(k:IntKind) (n:Int),bor h0 h (.int k n)=(.int k n)) ∧
 (∀(k:FloatKind) (n:Nat),bor h0 h (.fl k n)=(.fl k n)) ∧
 (∀(k:FloatKind) (a b:Nat),bor h0 h (.cx k a b)=(.cx k a b)) ∧
 (∀(l:List UInt8),bor h0 h (.str l)=(.str l)) ∧
 (∀(x:Value),bor h0 h (.lit x)=(.lit x)) ∧
 (bor h0 h AV.aq=AV.aq) ∧
 (∀(sz0:Nat) (es0:List AV),bor h0 h (.ro sz0 es0)=(.ro sz0 es0)) ∧
 (∀(x:AV),bor h0 h (.aA x)=(.aA x)) ∧
 (∀(i o n:Nat),bor h0 h (.sl i o n)=keepO (hget h0 i) (.sl i o n) (borSl (hget h i) o n)) ∧
 (∀(i j f:Nat),bor h0 h (.ptr i j f)=keepO (hget h0 i) (.ptr i j f) AV.undef) ∧
 (∀(i f:Nat),bor h0 h (.ab i f)=keepO (hget h0 i) (.ab i f) (borV h0 h (hget h i) f)) ∧
 (∀(cs:List AV),bor h0 h (.agg cs)=.agg (cs.map (borC h0 h))) ∧
 (∀(cs:List AV),bor h0 h (.ai cs)=AV.undef) ∧
 (∀(b:Bool) (x:AV),bor h0 h (.gd b x)=AV.undef) ∧
 (∀(f:Nat) (cs:List AV),bor h0 h (.aJ f cs)=AV.undef):=
 ⟨rfl,fun _=>rfl,fun _ _=>rfl,fun _ _=>rfl,fun _ _ _=>rfl,fun _=>rfl,fun _=>rfl,rfl,fun _ _=>rfl,fun _=>rfl,fun _ _ _=>(by simp only[bor,borC,borrowC,borSl,keepO];split<;>(try split)<;>simp_all),fun _ _ _=>(by simp only[bor,borC,keepO];rfl),fun _ _=>(by simp only[bor,borC,borV,keepO];rfl),fun _=>rfl,fun _=>rfl,fun _ _=>rfl,fun _ _=>rfl⟩
theorem abw :
 (noRefC  AV.undef=true) ∧
 (∀(b:Bool),noRefC  (.bool b)=true) ∧
 (∀(k:IntKind) (n:Int),noRefC  (.int k n)=true) ∧
 (∀(k:FloatKind) (n:Nat),noRefC  (.fl k n)=true) ∧
 (∀(k:FloatKind) (a b:Nat),noRefC  (.cx k a b)=true) ∧
 (∀(l:List UInt8),noRefC  (.str l)=true) ∧
 (∀(x:Value),noRefC  (.lit x)=true) ∧
 (noRefC  AV.aq=true) ∧
 (∀(sz0:Nat) (es0:List AV),noRefC  (.ro sz0 es0)=true) ∧
 (∀(x:AV),noRefC  (.aA x)=true) ∧
 (∀(i o n:Nat),noRefC  (.sl i o n)=false) ∧
 (∀(i j f:Nat),noRefC  (.ptr i j f)=false) ∧
 (∀(i f:Nat),noRefC  (.ab i f)=false) ∧
 (∀(cs:List AV),noRefC  (.agg cs)=false) ∧
 (∀(cs:List AV),noRefC  (.ai cs)=false) ∧
 (∀(b:Bool) (x:AV),noRefC  (.gd b x)=false) ∧
 (∀(f:Nat) (cs:List AV),noRefC  (.aJ f cs)=false):=
 ⟨rfl,fun _=>rfl,fun _ _=>rfl,fun _ _=>rfl,fun _ _ _=>rfl,fun _=>rfl,fun _=>rfl,rfl,fun _ _=>rfl,fun _=>rfl,fun _ _ _=>rfl,fun _ _ _=>rfl,fun _ _=>rfl,fun _=>rfl,fun _=>rfl,fun _ _=>rfl,fun _ _=>rfl⟩
theorem NY :
 (flC  AV.undef=true) ∧
 (∀(b:Bool),flC  (.bool b)=true) ∧
 (∀(k:IntKind) (n:Int),flC  (.int k n)=true) ∧
 (∀(k:FloatKind) (n:Nat),flC  (.fl k n)=true) ∧
 (∀(k:FloatKind) (a b:Nat),flC  (.cx k a b)=true) ∧
 (∀(l:List UInt8),flC  (.str l)=true) ∧
 (∀(x:Value),flC  (.lit x)=true) ∧
 (flC  AV.aq=true) ∧
 (∀(sz0:Nat) (es0:List AV),flC  (.ro sz0 es0)=false) ∧
 (∀(x:AV),flC  (.aA x)=false) ∧
 (∀(i o n:Nat),flC  (.sl i o n)=false) ∧
 (∀(i j f:Nat),flC  (.ptr i j f)=false) ∧
 (∀(i f:Nat),flC  (.ab i f)=false) ∧
 (∀(cs:List AV),flC  (.agg cs)=false) ∧
 (∀(cs:List AV),flC  (.ai cs)=false) ∧
 (∀(b:Bool) (x:AV),flC  (.gd b x)=false) ∧
 (∀(f:Nat) (cs:List AV),flC  (.aJ f cs)=false):=
 ⟨rfl,fun _=>rfl,fun _ _=>rfl,fun _ _=>rfl,fun _ _ _=>rfl,fun _=>rfl,fun _=>rfl,rfl,fun _ _=>rfl,fun _=>rfl,fun _ _ _=>rfl,fun _ _ _=>rfl,fun _ _=>rfl,fun _=>rfl,fun _=>rfl,fun _ _=>rfl,fun _ _=>rfl⟩
theorem VL :
 (isCell  AV.undef=false) ∧
 (∀(b:Bool),isCell  (.bool b)=true) ∧
 (∀(k:IntKind) (n:Int),isCell  (.int k n)=true) ∧
 (∀(k:FloatKind) (n:Nat),isCell  (.fl k n)=true) ∧
 (∀(k:FloatKind) (a b:Nat),isCell  (.cx k a b)=true) ∧
 (∀(l:List UInt8),isCell  (.str l)=true) ∧
 (∀(x:Value),isCell  (.lit x)=x.oneCell') ∧
 (isCell  AV.aq=true) ∧
 (∀(sz0:Nat) (es0:List AV),isCell  (.ro sz0 es0)=true) ∧
 (∀(x:AV),isCell  (.aA x)=true) ∧
 (∀(i o n:Nat),isCell  (.sl i o n)=true) ∧
 (∀(i j f:Nat),isCell  (.ptr i j f)=true) ∧
 (∀(i f:Nat),isCell  (.ab i f)=true) ∧
 (∀(cs:List AV),isCell  (.agg cs)=false) ∧
 (∀(cs:List AV),isCell  (.ai cs)=false) ∧
 (∀(b:Bool) (x:AV),isCell  (.gd b x)=false) ∧
 (∀(f:Nat) (cs:List AV),isCell  (.aJ f cs)=false):=
 ⟨rfl,fun _=>rfl,fun _ _=>rfl,fun _ _=>rfl,fun _ _ _=>rfl,fun _=>rfl,fun _=>rfl,rfl,fun _ _=>rfl,fun _=>rfl,fun _ _ _=>rfl,fun _ _ _=>rfl,fun _ _=>rfl,fun _=>rfl,fun _=>rfl,fun _ _=>rfl,fun _ _=>rfl⟩
theorem aby :
 (bB  AV.undef=true) ∧
 (∀(b:Bool),bB  (.bool b)=true) ∧
 (∀(k:IntKind) (n:Int),bB  (.int k n)=true) ∧
 (∀(k:FloatKind) (n:Nat),bB  (.fl k n)=true) ∧
 (∀(k:FloatKind) (a b:Nat),bB  (.cx k a b)=true) ∧
 (∀(l:List UInt8),bB  (.str l)=true) ∧
 (∀(x:Value),bB  (.lit x)=true) ∧
 (bB  AV.aq=true) ∧
 (∀(sz0:Nat) (es0:List AV),bB  (.ro sz0 es0)=true) ∧
 (∀(x:AV),bB  (.aA x)=true) ∧
 (∀(i o n:Nat),bB  (.sl i o n)=false) ∧
 (∀(i j f:Nat),bB  (.ptr i j f)=false) ∧
 (∀(i f:Nat),bB  (.ab i f)=false) ∧
 (∀(cs:List AV),bB  (.agg cs)=cs.all noRefC) ∧
 (∀(cs:List AV),bB  (.ai cs)=false) ∧
 (∀(b:Bool) (x:AV),bB  (.gd b x)=false) ∧
 (∀(f:Nat) (cs:List AV),bB  (.aJ f cs)=false):=
 ⟨rfl,fun _=>rfl,fun _ _=>rfl,fun _ _=>rfl,fun _ _ _=>rfl,fun _=>rfl,fun _=>rfl,rfl,fun _ _=>rfl,fun _=>rfl,fun _ _ _=>rfl,fun _ _ _=>rfl,fun _ _=>rfl,fun _=>rfl,fun _=>rfl,fun _ _=>rfl,fun _ _=>rfl⟩
theorem abx :
 (dm  AV.undef=true) ∧
 (∀(b:Bool),dm  (.bool b)=true) ∧
 (∀(k:IntKind) (n:Int),dm  (.int k n)=true) ∧
 (∀(k:FloatKind) (n:Nat),dm  (.fl k n)=true) ∧
 (∀(k:FloatKind) (a b:Nat),dm  (.cx k a b)=true) ∧
 (∀(l:List UInt8),dm  (.str l)=true) ∧
 (∀(x:Value),dm  (.lit x)=true) ∧
 (dm  AV.aq=true) ∧
 (∀(sz0:Nat) (es0:List AV),dm  (.ro sz0 es0)=true) ∧
 (∀(x:AV),dm  (.aA x)=true) ∧
 (∀(i o n:Nat),dm  (.sl i o n)=false) ∧
 (∀(i j f:Nat),dm  (.ptr i j f)=false) ∧
 (∀(i f:Nat),dm  (.ab i f)=false) ∧
 (∀(cs:List AV),dm  (.agg cs)=cs.all noRefC) ∧
 (∀(cs:List AV),dm  (.ai cs)=cs.all bB) ∧
 (∀(b:Bool) (x:AV),dm  (.gd b x)=false) ∧
 (∀(f:Nat) (cs:List AV),dm  (.aJ f cs)=false):=
 ⟨rfl,fun _=>rfl,fun _ _=>rfl,fun _ _=>rfl,fun _ _ _=>rfl,fun _=>rfl,fun _=>rfl,rfl,fun _ _=>rfl,fun _=>rfl,fun _ _ _=>rfl,fun _ _ _=>rfl,fun _ _=>rfl,fun _=>rfl,fun _=>rfl,fun _ _=>rfl,fun _ _=>rfl⟩
theorem NW :
 (flA  AV.undef=true) ∧
 (∀(b:Bool),flA  (.bool b)=true) ∧
 (∀(k:IntKind) (n:Int),flA  (.int k n)=true) ∧
 (∀(k:FloatKind) (n:Nat),flA  (.fl k n)=true) ∧
 (∀(k:FloatKind) (a b:Nat),flA  (.cx k a b)=true) ∧
 (∀(l:List UInt8),flA  (.str l)=true) ∧
 (∀(x:Value),flA  (.lit x)=true) ∧
 (flA  AV.aq=true) ∧
 (∀(sz0:Nat) (es0:List AV),flA  (.ro sz0 es0)=false) ∧
 (∀(x:AV),flA  (.aA x)=false) ∧
 (∀(i o n:Nat),flA  (.sl i o n)=false) ∧
 (∀(i j f:Nat),flA  (.ptr i j f)=false) ∧
 (∀(i f:Nat),flA  (.ab i f)=false) ∧
 (∀(cs:List AV),flA  (.agg cs)=cs.all flC) ∧
 (∀(cs:List AV),flA  (.ai cs)=false) ∧
 (∀(b:Bool) (x:AV),flA  (.gd b x)=false) ∧
 (∀(f:Nat) (cs:List AV),flA  (.aJ f cs)=false):=
 ⟨rfl,fun _=>rfl,fun _ _=>rfl,fun _ _=>rfl,fun _ _ _=>rfl,fun _=>rfl,fun _=>rfl,rfl,fun _ _=>rfl,fun _=>rfl,fun _ _ _=>rfl,fun _ _ _=>rfl,fun _ _=>rfl,fun _=>rfl,fun _=>rfl,fun _ _=>rfl,fun _ _=>rfl⟩
theorem N3 :
 (dR  AV.undef=true) ∧
 (∀(b:Bool),dR  (.bool b)=true) ∧
 (∀(k:IntKind) (n:Int),dR  (.int k n)=true) ∧
 (∀(k:FloatKind) (n:Nat),dR  (.fl k n)=true) ∧
 (∀(k:FloatKind) (a b:Nat),dR  (.cx k a b)=true) ∧
 (∀(l:List UInt8),dR  (.str l)=true) ∧
 (∀(x:Value),dR  (.lit x)=true) ∧
 (dR  AV.aq=true) ∧
 (∀(sz0:Nat) (es0:List AV),dR  (.ro sz0 es0)=false) ∧
 (∀(x:AV),dR  (.aA x)=false) ∧
 (∀(i o n:Nat),dR  (.sl i o n)=false) ∧
 (∀(i j f:Nat),dR  (.ptr i j f)=false) ∧
 (∀(i f:Nat),dR  (.ab i f)=false) ∧
 (∀(cs:List AV),dR  (.agg cs)=cs.all flC) ∧
 (∀(cs:List AV),dR  (.ai cs)=cs.all flA) ∧
 (∀(b:Bool) (x:AV),dR  (.gd b x)=false) ∧
 (∀(f:Nat) (cs:List AV),dR  (.aJ f cs)=false):=
 ⟨rfl,fun _=>rfl,fun _ _=>rfl,fun _ _=>rfl,fun _ _ _=>rfl,fun _=>rfl,fun _=>rfl,rfl,fun _ _=>rfl,fun _=>rfl,fun _ _ _=>rfl,fun _ _ _=>rfl,fun _ _=>rfl,fun _=>rfl,fun _=>rfl,fun _ _=>rfl,fun _ _=>rfl⟩
theorem Ou (h:HP) :
 (cn h AV.undef=true) ∧
 (∀(b:Bool),cn h (.bool b)=true) ∧
 (∀(k:IntKind) (n:Int),cn h (.int k n)=true) ∧
 (∀(k:FloatKind) (n:Nat),cn h (.fl k n)=true) ∧
 (∀(k:FloatKind) (a b:Nat),cn h (.cx k a b)=true) ∧
 (∀(l:List UInt8),cn h (.str l)=true) ∧
 (∀(x:Value),cn h (.lit x)=true) ∧
 (cn h AV.aq=true) ∧
 (∀(sz0:Nat) (es0:List AV),cn h (.ro sz0 es0)=false) ∧
 (∀(x:AV),cn h (.aA x)=false) ∧
 (∀(i o n:Nat),cn h (.sl i o n)=(hget h i).isSome) ∧
 (∀(i j f:Nat),cn h (.ptr i j f)=(hget h i).isSome) ∧
 (∀(i f:Nat),cn h (.ab i f)=(hget h i).isSome) ∧
 (∀(cs:List AV),cn h (.agg cs)=false) ∧
 (∀(cs:List AV),cn h (.ai cs)=false) ∧
 (∀(b:Bool) (x:AV),cn h (.gd b x)=false) ∧
 (∀(f:Nat) (cs:List AV),cn h (.aJ f cs)=false):=
 ⟨rfl,fun _=>rfl,fun _ _=>rfl,fun _ _=>rfl,fun _ _ _=>rfl,fun _=>rfl,fun _=>rfl,rfl,fun _ _=>rfl,fun _=>rfl,fun _ _ _=>rfl,fun _ _ _=>rfl,fun _ _=>rfl,fun _=>rfl,fun _=>rfl,fun _ _=>rfl,fun _ _=>rfl⟩
theorem Ot (h:HP) :
 (cS h AV.undef=true) ∧
 (∀(b:Bool),cS h (.bool b)=true) ∧
 (∀(k:IntKind) (n:Int),cS h (.int k n)=true) ∧
 (∀(k:FloatKind) (n:Nat),cS h (.fl k n)=true) ∧
 (∀(k:FloatKind) (a b:Nat),cS h (.cx k a b)=true) ∧
 (∀(l:List UInt8),cS h (.str l)=true) ∧
 (∀(x:Value),cS h (.lit x)=true) ∧
 (cS h AV.aq=true) ∧
 (∀(sz0:Nat) (es0:List AV),cS h (.ro sz0 es0)=false) ∧
 (∀(x:AV),cS h (.aA x)=false) ∧
 (∀(i o n:Nat),cS h (.sl i o n)=(hget h i).isSome) ∧
 (∀(i j f:Nat),cS h (.ptr i j f)=(hget h i).isSome) ∧
 (∀(i f:Nat),cS h (.ab i f)=(hget h i).isSome) ∧
 (∀(cs:List AV),cS h (.agg cs)=cs.all (cn h)) ∧
 (∀(cs:List AV),cS h (.ai cs)=false) ∧
 (∀(b:Bool) (x:AV),cS h (.gd b x)=false) ∧
 (∀(f:Nat) (cs:List AV),cS h (.aJ f cs)=false):=
 ⟨rfl,fun _=>rfl,fun _ _=>rfl,fun _ _=>rfl,fun _ _ _=>rfl,fun _=>rfl,fun _=>rfl,rfl,fun _ _=>rfl,fun _=>rfl,fun _ _ _=>rfl,fun _ _ _=>rfl,fun _ _=>rfl,fun _=>rfl,fun _=>rfl,fun _ _=>rfl,fun _ _=>rfl⟩
theorem N0 (h:HP) :
 (dF h AV.undef=true) ∧
 (∀(b:Bool),dF h (.bool b)=true) ∧
 (∀(k:IntKind) (n:Int),dF h (.int k n)=true) ∧
 (∀(k:FloatKind) (n:Nat),dF h (.fl k n)=true) ∧
 (∀(k:FloatKind) (a b:Nat),dF h (.cx k a b)=true) ∧
 (∀(l:List UInt8),dF h (.str l)=true) ∧
 (∀(x:Value),dF h (.lit x)=true) ∧
 (dF h AV.aq=true) ∧
 (∀(sz0:Nat) (es0:List AV),dF h (.ro sz0 es0)=false) ∧
 (∀(x:AV),dF h (.aA x)=false) ∧
 (∀(i o n:Nat),dF h (.sl i o n)=(hget h i).isSome) ∧
 (∀(i j f:Nat),dF h (.ptr i j f)=(hget h i).isSome) ∧
 (∀(i f:Nat),dF h (.ab i f)=(hget h i).isSome) ∧
 (∀(cs:List AV),dF h (.agg cs)=cs.all (cn h)) ∧
 (∀(cs:List AV),dF h (.ai cs)=cs.all (cS h)) ∧
 (∀(b:Bool) (x:AV),dF h (.gd b x)=false) ∧
 (∀(f:Nat) (cs:List AV),dF h (.aJ f cs)=false):=
 ⟨rfl,fun _=>rfl,fun _ _=>rfl,fun _ _=>rfl,fun _ _ _=>rfl,fun _=>rfl,fun _=>rfl,rfl,fun _ _=>rfl,fun _=>rfl,fun _ _ _=>rfl,fun _ _ _=>rfl,fun _ _=>rfl,fun _=>rfl,fun _=>rfl,fun _ _=>rfl,fun _ _=>rfl⟩
theorem TG (h:HP) :
 (cp h AV.undef=true) ∧
 (∀(b:Bool),cp h (.bool b)=true) ∧
 (∀(k:IntKind) (n:Int),cp h (.int k n)=true) ∧
 (∀(k:FloatKind) (n:Nat),cp h (.fl k n)=true) ∧
 (∀(k:FloatKind) (a b:Nat),cp h (.cx k a b)=true) ∧
 (∀(l:List UInt8),cp h (.str l)=true) ∧
 (∀(x:Value),cp h (.lit x)=true) ∧
 (cp h AV.aq=true) ∧
 (∀(sz0:Nat) (es0:List AV),cp h (.ro sz0 es0)=true) ∧
 (∀(x:AV),cp h (.aA x)=true) ∧
 (∀(i o n:Nat),cp h (.sl i o n)=(hget h i).isSome) ∧
 (∀(i j f:Nat),cp h (.ptr i j f)=(hget h i).isSome) ∧
 (∀(i f:Nat),cp h (.ab i f)=(hget h i).isSome) ∧
 (∀(cs:List AV),cp h (.agg cs)=false) ∧
 (∀(cs:List AV),cp h (.ai cs)=false) ∧
 (∀(b:Bool) (x:AV),cp h (.gd b x)=false) ∧
 (∀(f:Nat) (cs:List AV),cp h (.aJ f cs)=false):=
 ⟨rfl,fun _=>rfl,fun _ _=>rfl,fun _ _=>rfl,fun _ _ _=>rfl,fun _=>rfl,fun _=>rfl,rfl,fun _ _=>rfl,fun _=>rfl,fun _ _ _=>rfl,fun _ _ _=>rfl,fun _ _=>rfl,fun _=>rfl,fun _=>rfl,fun _ _=>rfl,fun _ _=>rfl⟩
theorem TF (h:HP) :
 (cV h AV.undef=true) ∧
 (∀(b:Bool),cV h (.bool b)=true) ∧
 (∀(k:IntKind) (n:Int),cV h (.int k n)=true) ∧
 (∀(k:FloatKind) (n:Nat),cV h (.fl k n)=true) ∧
 (∀(k:FloatKind) (a b:Nat),cV h (.cx k a b)=true) ∧
 (∀(l:List UInt8),cV h (.str l)=true) ∧
 (∀(x:Value),cV h (.lit x)=true) ∧
 (cV h AV.aq=true) ∧
 (∀(sz0:Nat) (es0:List AV),cV h (.ro sz0 es0)=true) ∧
 (∀(x:AV),cV h (.aA x)=true) ∧
 (∀(i o n:Nat),cV h (.sl i o n)=(hget h i).isSome) ∧
 (∀(i j f:Nat),cV h (.ptr i j f)=(hget h i).isSome) ∧
 (∀(i f:Nat),cV h (.ab i f)=(hget h i).isSome) ∧
 (∀(cs:List AV),cV h (.agg cs)=cs.all (cp h)) ∧
 (∀(cs:List AV),cV h (.ai cs)=false) ∧
 (∀(b:Bool) (x:AV),cV h (.gd b x)=false) ∧
 (∀(f:Nat) (cs:List AV),cV h (.aJ f cs)=false):=
 ⟨rfl,fun _=>rfl,fun _ _=>rfl,fun _ _=>rfl,fun _ _ _=>rfl,fun _=>rfl,fun _=>rfl,rfl,fun _ _=>rfl,fun _=>rfl,fun _ _ _=>rfl,fun _ _ _=>rfl,fun _ _=>rfl,fun _=>rfl,fun _=>rfl,fun _ _=>rfl,fun _ _=>rfl⟩
theorem TJ (h:HP) :
 (c6 h AV.undef=true) ∧
 (∀(b:Bool),c6 h (.bool b)=true) ∧
 (∀(k:IntKind) (n:Int),c6 h (.int k n)=true) ∧
 (∀(k:FloatKind) (n:Nat),c6 h (.fl k n)=true) ∧
 (∀(k:FloatKind) (a b:Nat),c6 h (.cx k a b)=true) ∧
 (∀(l:List UInt8),c6 h (.str l)=true) ∧
 (∀(x:Value),c6 h (.lit x)=true) ∧
 (c6 h AV.aq=true) ∧
 (∀(sz0:Nat) (es0:List AV),c6 h (.ro sz0 es0)=true) ∧
 (∀(x:AV),c6 h (.aA x)=true) ∧
 (∀(i o n:Nat),c6 h (.sl i o n)=(hget h i).isSome) ∧
 (∀(i j f:Nat),c6 h (.ptr i j f)=(hget h i).isSome) ∧
 (∀(i f:Nat),c6 h (.ab i f)=(hget h i).isSome) ∧
 (∀(cs:List AV),c6 h (.agg cs)=cs.all (cp h)) ∧
 (∀(cs:List AV),c6 h (.ai cs)=cs.all (cV h)) ∧
 (∀(b:Bool) (x:AV),c6 h (.gd b x)=false) ∧
 (∀(f:Nat) (cs:List AV),c6 h (.aJ f cs)=false):=
 ⟨rfl,fun _=>rfl,fun _ _=>rfl,fun _ _=>rfl,fun _ _ _=>rfl,fun _=>rfl,fun _=>rfl,rfl,fun _ _=>rfl,fun _=>rfl,fun _ _ _=>rfl,fun _ _ _=>rfl,fun _ _=>rfl,fun _=>rfl,fun _=>rfl,fun _ _=>rfl,fun _ _=>rfl⟩
theorem amt :
 (stripV  AV.undef=AV.undef) ∧
 (∀(b:Bool),stripV  (.bool b)=(.bool b)) ∧
 (∀(k:IntKind) (n:Int),stripV  (.int k n)=(.int k n)) ∧
 (∀(k:FloatKind) (n:Nat),stripV  (.fl k n)=(.fl k n)) ∧
 (∀(k:FloatKind) (a b:Nat),stripV  (.cx k a b)=(.cx k a b)) ∧
 (∀(l:List UInt8),stripV  (.str l)=(.str l)) ∧
 (∀(x:Value),stripV  (.lit x)=(.lit x)) ∧
 (stripV  AV.aq=AV.aq) ∧
 (∀(sz0:Nat) (es0:List AV),stripV  (.ro sz0 es0)=(.ro sz0 es0)) ∧
 (∀(x:AV),stripV  (.aA x)=(.aA x)) ∧
 (∀(i o n:Nat),stripV  (.sl i o n)=(.sl i o n)) ∧
 (∀(i j f:Nat),stripV  (.ptr i j f)=(.ptr i j f)) ∧
 (∀(i f:Nat),stripV  (.ab i f)=(.ab i f)) ∧
 (∀(cs:List AV),stripV  (.agg cs)=(.agg cs)) ∧
 (∀(cs:List AV),stripV  (.ai cs)=(.ai cs)) ∧
 (∀(b:Bool) (x:AV),stripV  (.gd b x)=x) ∧
 (∀(f:Nat) (cs:List AV),stripV  (.aJ f cs)=.aJ f cs):=
 ⟨rfl,fun _=>rfl,fun _ _=>rfl,fun _ _=>rfl,fun _ _ _=>rfl,fun _=>rfl,fun _=>rfl,rfl,fun _ _=>rfl,fun _=>rfl,fun _ _ _=>rfl,fun _ _ _=>rfl,fun _ _=>rfl,fun _=>rfl,fun _=>rfl,fun _ _=>rfl,fun _ _=>rfl⟩
theorem ams (γ:Bool) :
 (aB γ AV.undef=True) ∧
 (∀(b:Bool),aB γ (.bool b)=True) ∧
 (∀(k:IntKind) (n:Int),aB γ (.int k n)=True) ∧
 (∀(k:FloatKind) (n:Nat),aB γ (.fl k n)=True) ∧
 (∀(k:FloatKind) (a b:Nat),aB γ (.cx k a b)=True) ∧
 (∀(l:List UInt8),aB γ (.str l)=True) ∧
 (∀(x:Value),aB γ (.lit x)=True) ∧
 (aB γ AV.aq=True) ∧
 (∀(sz0:Nat) (es0:List AV),aB γ (.ro sz0 es0)=True) ∧
 (∀(x:AV),aB γ (.aA x)=True) ∧
 (∀(i o n:Nat),aB γ (.sl i o n)=True) ∧
 (∀(i j f:Nat),aB γ (.ptr i j f)=True) ∧
 (∀(i f:Nat),aB γ (.ab i f)=True) ∧
 (∀(cs:List AV),aB γ (.agg cs)=True) ∧
 (∀(cs:List AV),aB γ (.ai cs)=True) ∧
 (∀(b:Bool) (x:AV),aB γ (.gd b x)=(γ=true→b=true)) ∧
 (∀(f:Nat) (cs:List AV),aB γ (.aJ f cs)=True):=
 ⟨rfl,fun _=>rfl,fun _ _=>rfl,fun _ _=>rfl,fun _ _ _=>rfl,fun _=>rfl,fun _=>rfl,rfl,fun _ _=>rfl,fun _=>rfl,fun _ _ _=>rfl,fun _ _ _=>rfl,fun _ _=>rfl,fun _=>rfl,fun _=>rfl,fun _ _=>rfl,fun _ _=>rfl⟩
theorem Nh (st:St):(∀k,ev st (.t k)=(sget st.s k).getD .undef)∧(∀v,ev st (.c v)=v):=⟨fun _=>rfl,fun _=>rfl⟩
theorem ahR (st:St) (v:AV):(∀d,put st (some d) v=⟨(d,v)::st.s,st.h⟩)∧put st none v=st:=⟨fun _=>rfl,rfl⟩
theorem Ps (w:Bool):(∀β,grd (some (.bool β)) w=some (β==w))∧(∀b β,grd (some (.gd b (.bool β))) w=some (b&&(β==w)))∧grd (some (.gd false .undef)) w=some false:=⟨fun _=>rfl,fun b _=>by cases b<;>rfl,rfl⟩
theorem abr (st:St) (d:Nat) (W:aF):bL st d W=⟨killS d st.s,bz (eF d st.h) d W⟩:=(rfl)
theorem XT (id:Nat):(∀sz es,jS id (.arr sz es)=.arr sz es)∧(∀cs,jS id (.var cs)=.var (cs.map (killC id)))∧(∀kd l,jS id (.mp kd l)=.mp kd l):=⟨fun _ _=>rfl,fun _=>rfl,fun _ _=>rfl⟩
theorem Pa (id sz:Nat) (es:List AV):(∀sz' es',kL id sz es (.arr sz' es')=.arr sz' es')∧(∀cs,kL id sz es (.var cs)=.var (cs.map (bQ id sz es)))∧(∀kd l,kL id sz es (.mp kd l)=.mp kd l):=⟨fun _ _=>rfl,fun _=>rfl,fun _ _=>rfl⟩
theorem ain (id id':Nat):(∀sz es,j4 id id' (.arr sz es)=.arr sz es)∧(∀cs,j4 id id' (.var cs)=.var (cs.map fun c=>bR id id' (killC id' c)))∧(∀kd l,j4 id id' (.mp kd l)=.mp kd l):=⟨fun _ _=>rfl,fun _=>rfl,fun _ _=>rfl⟩
theorem Xv (ids keep:List Nat):(∀sz es,jj ids keep (.arr sz es)=.arr sz es)∧(∀cs,jj ids keep (.var cs)=.var (cs.map (b5 ids keep)))∧(∀kd l,jj ids keep (.mp kd l)=.mp kd l):=⟨fun _ _=>rfl,fun _=>rfl,fun _ _=>rfl⟩
theorem TK (h:HP):(∀sz es,l8 h (.arr sz es)=true)∧(∀cs,l8 h (.var cs)=cs.all (cp h))∧(∀kd l,l8 h (.mp kd l)=true):=⟨fun _ _=>rfl,fun _=>rfl,fun _ _=>rfl⟩
theorem N4 (h:HP):(∀sz es,jM h (.arr sz es)=es.all flA)∧(∀cs,jM h (.var cs)=cs.all (cn h))∧(∀kd (l:List (MK×AV)),jM h (.mp kd l)=l.all fun p=>flA p.2):=⟨fun _ _=>rfl,fun _=>rfl,fun _ _=>rfl⟩
theorem TH (h:HP):gQ h []=true∧(∀k W r,gQ h ((k,W)::r)=(l8 h W&&gQ h r)):=⟨rfl,fun _ _ _=>rfl⟩
theorem NZ (h:HP):flH h []=true∧(∀k W r,flH h ((k,W)::r)=(jM h W&&flH h r)):=⟨rfl,fun _ _ _=>rfl⟩
theorem abj:da []=[]∧(∀k W r,da ((k,W)::r)=k::da r):=⟨rfl,fun _ _ _=>rfl⟩
theorem abV (k:Nat):numbered k []=[]∧(∀x r,numbered k (x::r)=(k,x)::numbered (k+1) r):=⟨rfl,fun _ _=>rfl⟩
theorem aim (id id':Nat):renS id id' []=[]∧(∀k v r,renS id id' ((k,v)::r)=(k,de id id' (kill id' v))::renS id id' r):=⟨rfl,fun _ _ _=>rfl⟩
theorem ail (id id':Nat):renH id id' []=[]∧(∀k v r,renH id id' ((k,v)::r)=(rn id id' k,j4 id id' v)::renH id id' r):=⟨rfl,fun _ _ _=>rfl⟩
theorem ama (id id':Nat) (st:St):q7 id id' st=⟨renS id id' st.s,renH id id' st.h⟩:=(rfl)
theorem al5 (k id sz:Nat) (st:St):uP k id sz st=⟨(k,.sl id 0 0)::killS id st.s,bz (eF id st.h) id (.arr sz [])⟩:=(rfl)
theorem al4 (p f id sz:Nat) (cs:List AV) (st:St):uQ p f id sz cs st=⟨killS id st.s,bz (bz (eF id st.h) id (.arr sz [])) p (.var ((cs.map (killC id)).set f (.sl id 0 0)))⟩:=(rfl)
def kP (b:Bool) (x y:Option (List AV)):Option (List AV):=match b with
 | true=>x
 | false=>y
def uG (W:Option aF) (sz o n:Nat):Option (List AV):=match W with
 | some (.arr sz' es)=>kP (sz'==sz) (some (aG es o n)) none
 | _=>none
theorem SK {x y:Option (List AV)}:kP true x y=x:=(rfl)
theorem SJ {x y:Option (List AV)}:kP false x y=y:=(rfl)
theorem akJ {sz sz' o n:Nat} {es:List AV}:uG (some (.arr sz' es)) sz o n=kP (sz'==sz) (some (aG es o n)) none:=(rfl)
theorem ti {i j:Nat} {x y:Option (List AV)}:(if i=j then x else y)=kP (i==j) x y:=by
 by_cases h:i=j
 ·subst h;rw[if_pos rfl,show(i==i)=true by simp];rfl
 ·rw[if_neg h,show(i==j)=false by simp[h]];rfl
theorem akI (sz:Nat) (st:St):slE sz st .aq=some []∧(∀sz' es,slE sz st (.ro sz' es)=kP (sz'==sz) (some es) none)∧(∀id o n,slE sz st (.sl id o n)=uG (hget st.h id) sz o n):=by
 refine⟨rfl,fun sz' es=>?_,fun id o n=>?_⟩
 ·rw[←ti];rfl
 ·simp only[slE,uG]
  split
  ·rename_i e;rw[e];exact ti
  ·rename_i e
   split
   ·rename_i e2;exact(e _ _ e2).elim
   ·rfl
def kB (b:Bool) (l:List Nat):List Nat:=match b with
 | true=>l
 | false=>[]
def keep1 (x a:AV):List Nat:=match x,a with
 | .ab p f,.ab p' f'=>kB (p==p'&&f==f') [p]
 | _,_=>[]
theorem Xt (l:List Nat):kB true l=l∧kB false l=[]:=⟨rfl,rfl⟩
theorem XB (x a:AV) (xs as:List AV):keepL2 (x::xs) (a::as)=keep1 x a++keepL2 xs as:=by
 cases x<;>cases a<;>simp only[keepL2,keep1,List.nil_append]
 rename_i p f p' f'
 by_cases h1:p=p'
 ·by_cases h2:f=f'
  ·subst h1;subst h2;simp[kB]
  ·rw[if_pos h1,if_neg h2,show(p==p'&&f==f')=false by simp[h2]];rfl
 ·rw[if_neg h1,show(p==p'&&f==f')=false by simp[h1]];rfl
theorem XC (as:List AV):keepL2 [] as=[]:=by simp[keepL2]
theorem XD (xs:List AV):keepL2 xs []=[]:=by cases xs<;>simp[keepL2]
theorem Xz:(∀(a:AV),keep1 AV.undef a=[]) ∧
 (∀(b:Bool) (a:AV),keep1 (.bool b) a=[]) ∧
 (∀(k:IntKind) (n:Int) (a:AV),keep1 (.int k n) a=[]) ∧
 (∀(k:FloatKind) (n:Nat) (a:AV),keep1 (.fl k n) a=[]) ∧
 (∀(k:FloatKind) (m n:Nat) (a:AV),keep1 (.cx k m n) a=[]) ∧
 (∀(l:List UInt8) (a:AV),keep1 (.str l) a=[]) ∧
 (∀(v:Value) (a:AV),keep1 (.lit v) a=[]) ∧
 (∀(a:AV),keep1 AV.aq a=[]) ∧
 (∀(sz:Nat) (es:List AV) (a:AV),keep1 (.ro sz es) a=[]) ∧
 (∀(x:AV) (a:AV),keep1 (.aA x) a=[]) ∧
 (∀(i o n:Nat) (a:AV),keep1 (.sl i o n) a=[]) ∧
 (∀(i j f:Nat) (a:AV),keep1 (.ptr i j f) a=[]) ∧
 (∀(cs:List AV) (a:AV),keep1 (.agg cs) a=[]) ∧
 (∀(cs:List AV) (a:AV),keep1 (.ai cs) a=[]) ∧
 (∀(b:Bool) (x:AV) (a:AV),keep1 (.gd b x) a=[]) ∧
 (∀(p f:Nat),keep1 (.ab p f) AV.undef=[]) ∧
 (∀(p f:Nat) (b:Bool),keep1 (.ab p f) (.bool b)=[]) ∧
 (∀(p f:Nat) (k:IntKind) (n:Int),keep1 (.ab p f) (.int k n)=[]) ∧
 (∀(p f:Nat) (k:FloatKind) (n:Nat),keep1 (.ab p f) (.fl k n)=[]) ∧
 (∀(p f:Nat) (k:FloatKind) (m n:Nat),keep1 (.ab p f) (.cx k m n)=[]) ∧
 (∀(p f:Nat) (l:List UInt8),keep1 (.ab p f) (.str l)=[]) ∧
 (∀(p f:Nat) (v:Value),keep1 (.ab p f) (.lit v)=[]) ∧
 (∀(p f:Nat),keep1 (.ab p f) AV.aq=[]) ∧
 (∀(p f:Nat) (sz:Nat) (es:List AV),keep1 (.ab p f) (.ro sz es)=[]) ∧
 (∀(p f:Nat) (x:AV),keep1 (.ab p f) (.aA x)=[]) ∧
 (∀(p f:Nat) (i o n:Nat),keep1 (.ab p f) (.sl i o n)=[]) ∧
 (∀(p f:Nat) (i j f:Nat),keep1 (.ab p f) (.ptr i j f)=[]) ∧
 (∀(p f:Nat) (cs:List AV),keep1 (.ab p f) (.agg cs)=[]) ∧
 (∀(p f:Nat) (cs:List AV),keep1 (.ab p f) (.ai cs)=[]) ∧
 (∀(p f:Nat) (b:Bool) (x:AV),keep1 (.ab p f) (.gd b x)=[]) ∧
 (∀(p f p' f':Nat),keep1 (.ab p f) (.ab p' f')=kB (p==p'&&f==f') [p]):=
 ⟨fun _=>rfl,fun _ _=>rfl,fun _ _ _=>rfl,fun _ _ _=>rfl,fun _ _ _ _=>rfl,fun _ _=>rfl,fun _ _=>rfl,fun _=>rfl,fun _ _ _=>rfl,fun _ _=>rfl,fun _ _ _ _=>rfl,fun _ _ _ _=>rfl,fun _ _=>rfl,fun _ _=>rfl,fun _ _ _=>rfl,fun _ _=>rfl,fun _ _ _=>rfl,fun _ _ _ _=>rfl,fun _ _ _ _=>rfl,fun _ _ _ _ _=>rfl,fun _ _ _=>rfl,fun _ _ _=>rfl,fun _ _=>rfl,fun _ _ _ _=>rfl,fun _ _ _=>rfl,fun _ _ _ _ _=>rfl,fun _ _ _ _ _=>rfl,fun _ _ _=>rfl,fun _ _ _=>rfl,fun _ _ _ _=>rfl,fun _ _ _ _=>rfl⟩
def mP (b:Bool) (l:List (Nat×AV)):List (Nat×AV):=match b with
 | true=>l
 | false=>[]
theorem FY (l:List (Nat×AV)):mP true l=l∧mP false l=[]:=⟨rfl,rfl⟩
def back1 (s:List (Nat×AV)) (h:HP) (k:Nat) (a:AV):List (Nat×AV):=match a with
 | .sl i o n=>mP ((hget h i).isSome&&(sget s k).isSome) [(k,.sl i o n)]
 | _=>[]
theorem Ga (s:List (Nat×AV)) (h:HP) (k:Nat) (xs:List AE) (a:AV) (as:List AV):backS s h (.t k::xs) (a::as)=back1 s h k a++backS s h xs as:=by
 cases a<;>simp only[backS,back1,List.nil_append]
 rename_i i o n
 cases h1:(hget h i).isSome<;>cases h2:(sget s k).isSome<;>simp[mP]
theorem F7 (s:List (Nat×AV)) (h:HP) (v:AV) (xs:List AE) (a:AV) (as:List AV):backS s h (.c v::xs) (a::as)=backS s h xs as:=by
 cases a<;>simp only[backS]
theorem F9 (s:List (Nat×AV)) (h:HP) (as:List AV):backS s h [] as=[]:=by simp[backS]
theorem F4:(∀(s:List (Nat×AV)) (h:HP) (k0:Nat),back1 s h k0 AV.undef=[]) ∧
 (∀(s:List (Nat×AV)) (h:HP) (k0:Nat) (b:Bool),back1 s h k0 (.bool b)=[]) ∧
 (∀(s:List (Nat×AV)) (h:HP) (k0:Nat) (k:IntKind) (n:Int),back1 s h k0 (.int k n)=[]) ∧
 (∀(s:List (Nat×AV)) (h:HP) (k0:Nat) (k:FloatKind) (n:Nat),back1 s h k0 (.fl k n)=[]) ∧
 (∀(s:List (Nat×AV)) (h:HP) (k0:Nat) (k:FloatKind) (m n:Nat),back1 s h k0 (.cx k m n)=[]) ∧
 (∀(s:List (Nat×AV)) (h:HP) (k0:Nat) (l:List UInt8),back1 s h k0 (.str l)=[]) ∧
 (∀(s:List (Nat×AV)) (h:HP) (k0:Nat) (v:Value),back1 s h k0 (.lit v)=[]) ∧
 (∀(s:List (Nat×AV)) (h:HP) (k0:Nat),back1 s h k0 AV.aq=[]) ∧
 (∀(s:List (Nat×AV)) (h:HP) (k0:Nat) (sz:Nat) (es:List AV),back1 s h k0 (.ro sz es)=[]) ∧
 (∀(s:List (Nat×AV)) (h:HP) (k0:Nat) (x:AV),back1 s h k0 (.aA x)=[]) ∧
 (∀(s:List (Nat×AV)) (h:HP) (k0:Nat) (i j f:Nat),back1 s h k0 (.ptr i j f)=[]) ∧
 (∀(s:List (Nat×AV)) (h:HP) (k0:Nat) (cs:List AV),back1 s h k0 (.agg cs)=[]) ∧
 (∀(s:List (Nat×AV)) (h:HP) (k0:Nat) (cs:List AV),back1 s h k0 (.ai cs)=[]) ∧
 (∀(s:List (Nat×AV)) (h:HP) (k0:Nat) (b:Bool) (x:AV),back1 s h k0 (.gd b x)=[]) ∧
 (∀(s:List (Nat×AV)) (h:HP) (k0:Nat) (i f:Nat),back1 s h k0 (.ab i f)=[]) ∧
 (∀(s:List (Nat×AV)) (h:HP) (k0:Nat) (i o n:Nat),back1 s h k0 (.sl i o n)=mP ((hget h i).isSome&&(sget s k0).isSome) [(k0,.sl i o n)]):=
 ⟨fun _ _ _=>rfl,fun _ _ _ _=>rfl,fun _ _ _ _ _=>rfl,fun _ _ _ _ _=>rfl,fun _ _ _ _ _ _=>rfl,fun _ _ _ _=>rfl,fun _ _ _ _=>rfl,fun _ _ _=>rfl,fun _ _ _ _ _=>rfl,fun _ _ _ _=>rfl,fun _ _ _ _ _ _=>rfl,fun _ _ _ _=>rfl,fun _ _ _ _=>rfl,fun _ _ _ _ _=>rfl,fun _ _ _ _ _=>rfl,fun _ _ _ _ _ _=>rfl⟩
theorem D8 (st:St) (h:HP) (args:List AE) (h':HP) (as:List AV):fi st h args h' as=⟨backS st.s h' args as++killSI (da h++da h') (keepL2 (args.map (ev st)) as) st.s,h'++dropH (da h++da h') (keepL2 (args.map (ev st)) as) st.h⟩:=(rfl)
theorem al0 (sz:Nat) (st:St):(∀l,srcE sz st (.str l)=kP (sz==1) (some (l.map ub)) none)∧srcE sz st .aq=slE sz st .aq∧(∀sz' es,srcE sz st (.ro sz' es)=slE sz st (.ro sz' es))∧(∀id o n,srcE sz st (.sl id o n)=slE sz st (.sl id o n)):=
 ⟨fun l=>by rw[←ti];rfl,rfl,fun _ _=>rfl,fun _ _ _=>rfl⟩
theorem HU (x:AV):aQ x=(cellsOf x).all isCell:=(rfl)
theorem ajH {α:Type} (l:List α) (k:Nat) (s:List α):bU l k s=l.take k++s++l.drop (k+s.length):=(rfl)
theorem afM:(∀x,packC [x]=x)∧packC []=.agg []∧(∀x y r,packC (x::y::r)=.agg (x::y::r)):=⟨fun _=>rfl,rfl,fun _ _ _=>rfl⟩
theorem agU (γ β:Bool) (x y:AV) :
 (∀p q,pick2 γ β x y (.bool p) (.bool q)=.ok ((γ=true→β=true→aB true x)∧(γ=true→β=false→aB true y)) (.bool (if β then p else q))) ∧
 (∀p,pick2 γ β x y (.bool p) .undef=.ok (γ=true→β=true∧aB true x) (.bool p)) ∧
 (∀q,pick2 γ β x y .undef (.bool q)=.ok (γ=true→β=false∧aB true y) (.bool q)):=⟨fun _ _=>rfl,fun _=>rfl,fun _=>rfl⟩
theorem agV (γ β:Bool) (x y:AV):pickR γ (.bool β) x y=pick2 γ β x y (stripV x) (stripV y):=(rfl)
theorem XJ (st:St):(∀id o n,keepR st (.sl id o n)=keepSl st id o n (hget st.h id)) ∧
 (∀b,keepR st (.bool b)=.ok (bB (.bool b)=true∧aQ (.bool b)=true) (.bool b) st) ∧
 (∀k n,keepR st (.int k n)=.ok (bB (.int k n)=true∧aQ (.int k n)=true) (.int k n) st) ∧
 (∀k n,keepR st (.fl k n)=.ok (bB (.fl k n)=true∧aQ (.fl k n)=true) (.fl k n) st) ∧
 (∀k a b,keepR st (.cx k a b)=.ok (bB (.cx k a b)=true∧aQ (.cx k a b)=true) (.cx k a b) st) ∧
 (∀l,keepR st (.str l)=.ok (bB (.str l)=true∧aQ (.str l)=true) (.str l) st) ∧
 (∀l,keepR st (.lit l)=.ok (bB (.lit l)=true∧aQ (.lit l)=true) (.lit l) st) ∧
 (keepR st .aq=.ok (bB .aq=true∧aQ .aq=true) .aq st) ∧
 (∀sz es,keepR st (.ro sz es)=.ok (bB (.ro sz es)=true∧aQ (.ro sz es)=true) (.ro sz es) st) ∧
 (∀x,keepR st (.aA x)=.ok (bB (.aA x)=true∧aQ (.aA x)=true) (.aA x) st) ∧
 (∀cs,keepR st (.agg cs)=.ok (bB (.agg cs)=true∧aQ (.agg cs)=true) (.agg cs) st):=
 ⟨fun _ _ _=>rfl,fun _=>rfl,fun _ _=>rfl,fun _ _=>rfl,fun _ _ _=>rfl,fun _=>rfl,fun _=>rfl,rfl,fun _ _=>rfl,fun _=>rfl,fun _=>rfl⟩
theorem Ep :
 (∀(c:Prop) d v,andR c (.ok d v)=.ok (c∧d) v) ∧
 (∀(c:Prop),andR c (.fail)=.fail):=
 ⟨(fun _ _ _=>rfl),(fun _=>rfl)⟩
theorem T4 :
 (∀(γ:Bool) (k:IntKind) (k':IntKind) (x:Int) (y:Int),intR γ (.shl) k k' x y=.ok (γ=true→0≤y) (.int k (k.wrap (x*2^(min y.toNat k.bits))))) ∧
 (∀(γ:Bool) (k:IntKind) (k':IntKind) (x:Int) (y:Int),intR γ (.shr) k k' x y=.ok (γ=true→0≤y) (.int k (x.fdiv (2^(min y.toNat k.bits))))) ∧
 (∀(γ:Bool) (k:IntKind) (k':IntKind) (x:Int) (y:Int),intR γ (.add) k k' x y=.ok (k=k') (.int k (k.wrap (x+y)))) ∧
 (∀(γ:Bool) (k:IntKind) (k':IntKind) (x:Int) (y:Int),intR γ (.sub) k k' x y=.ok (k=k') (.int k (k.wrap (x-y)))) ∧
 (∀(γ:Bool) (k:IntKind) (k':IntKind) (x:Int) (y:Int),intR γ (.mul) k k' x y=.ok (k=k') (.int k (k.wrap (x*y)))) ∧
 (∀(γ:Bool) (k:IntKind) (k':IntKind) (x:Int) (y:Int),intR γ (.quo) k k' x y=.ok (k=k'∧(γ=true→y≠0)) (.int k (k.wrap (x.tdiv y)))) ∧
 (∀(γ:Bool) (k:IntKind) (k':IntKind) (x:Int) (y:Int),intR γ (.rem) k k' x y=.ok (k=k'∧(γ=true→y≠0)) (.int k (x.tmod y))) ∧
 (∀(γ:Bool) (k:IntKind) (k':IntKind) (x:Int) (y:Int),intR γ (.and) k k' x y=.ok (k=k') (.int k (bits .and k x y))) ∧
 (∀(γ:Bool) (k:IntKind) (k':IntKind) (x:Int) (y:Int),intR γ (.or) k k' x y=.ok (k=k') (.int k (bits .or k x y))) ∧
 (∀(γ:Bool) (k:IntKind) (k':IntKind) (x:Int) (y:Int),intR γ (.xor) k k' x y=.ok (k=k') (.int k (bits .xor k x y))) ∧
 (∀(γ:Bool) (k:IntKind) (k':IntKind) (x:Int) (y:Int),intR γ (.andNot) k k' x y=.ok (k=k') (.int k (bits .andNot k x y))) ∧
 (∀(γ:Bool) (k:IntKind) (k':IntKind) (x:Int) (y:Int),intR γ (.eql) k k' x y=.ok (k=k') (.bool (decide (x=y)))) ∧
 (∀(γ:Bool) (k:IntKind) (k':IntKind) (x:Int) (y:Int),intR γ (.neq) k k' x y=.ok (k=k') (.bool (!decide (x=y)))) ∧
 (∀(γ:Bool) (k:IntKind) (k':IntKind) (x:Int) (y:Int),intR γ (.lss) k k' x y=.ok (k=k') (.bool (decide (x<y)))) ∧
 (∀(γ:Bool) (k:IntKind) (k':IntKind) (x:Int) (y:Int),intR γ (.leq) k k' x y=.ok (k=k') (.bool (decide (x≤y)))) ∧
 (∀(γ:Bool) (k:IntKind) (k':IntKind) (x:Int) (y:Int),intR γ (.gtr) k k' x y=.ok (k=k') (.bool (decide (y<x)))) ∧
 (∀(γ:Bool) (k:IntKind) (k':IntKind) (x:Int) (y:Int),intR γ (.geq) k k' x y=.ok (k=k') (.bool (decide (y≤x)))):=
 ⟨(fun _ _ _ _ _=>rfl),(fun _ _ _ _ _=>rfl),(fun _ _ _ _ _=>rfl),(fun _ _ _ _ _=>rfl),(fun _ _ _ _ _=>rfl),(fun _ _ _ _ _=>rfl),(fun _ _ _ _ _=>rfl),(fun _ _ _ _ _=>rfl),(fun _ _ _ _ _=>rfl),(fun _ _ _ _ _=>rfl),(fun _ _ _ _ _=>rfl),(fun _ _ _ _ _=>rfl),(fun _ _ _ _ _=>rfl),(fun _ _ _ _ _=>rfl),(fun _ _ _ _ _=>rfl),(fun _ _ _ _ _=>rfl),(fun _ _ _ _ _=>rfl)⟩
theorem amp :
 (∀(γ:Bool) (x:List UInt8) (y:List UInt8),iW γ (.add) x y=.ok (γ=true→x.length+y.length≤9223372036854775807) (.str (x++y))) ∧
 (∀(γ:Bool) (x:List UInt8) (y:List UInt8),iW γ (.eql) x y=.ok True (.bool (x==y))) ∧
 (∀(γ:Bool) (x:List UInt8) (y:List UInt8),iW γ (.neq) x y=.ok True (.bool (!(x==y)))) ∧
 (∀(γ:Bool) (x:List UInt8) (y:List UInt8),iW γ (.lss) x y=.ok True (.bool (Op.bytesLess x y))) ∧
 (∀(γ:Bool) (x:List UInt8) (y:List UInt8),iW γ (.leq) x y=.ok True (.bool (Op.bytesLess x y||x==y))) ∧
 (∀(γ:Bool) (x:List UInt8) (y:List UInt8),iW γ (.gtr) x y=.ok True (.bool (!(Op.bytesLess x y||x==y)))) ∧
 (∀(γ:Bool) (x:List UInt8) (y:List UInt8),iW γ (.geq) x y=.ok True (.bool (!Op.bytesLess x y))):=
 ⟨(fun _ _ _=>rfl),(fun _ _ _=>rfl),(fun _ _ _=>rfl),(fun _ _ _=>rfl),(fun _ _ _=>rfl),(fun _ _ _=>rfl),(fun _ _ _=>rfl)⟩
theorem N2 :
 (∀(k:FloatKind) (k':FloatKind) (x:Nat) (y:Nat),gk (.add) k k' x y=.ok (k=k'∧(k.format.add x y).isSome=true) (.fl k ((k.format.add x y).getD 0))) ∧
 (∀(k:FloatKind) (k':FloatKind) (x:Nat) (y:Nat),gk (.sub) k k' x y=.ok (k=k'∧(k.format.sub x y).isSome=true) (.fl k ((k.format.sub x y).getD 0))) ∧
 (∀(k:FloatKind) (k':FloatKind) (x:Nat) (y:Nat),gk (.mul) k k' x y=.ok (k=k'∧(k.format.mul x y).isSome=true) (.fl k ((k.format.mul x y).getD 0))) ∧
 (∀(k:FloatKind) (k':FloatKind) (x:Nat) (y:Nat),gk (.eql) k k' x y=.ok (k=k') (.bool (k.format.order x y==some .eq))) ∧
 (∀(k:FloatKind) (k':FloatKind) (x:Nat) (y:Nat),gk (.neq) k k' x y=.ok (k=k') (.bool (k.format.order x y != some .eq))) ∧
 (∀(k:FloatKind) (k':FloatKind) (x:Nat) (y:Nat),gk (.lss) k k' x y=.ok (k=k') (.bool (k.format.order x y==some .lt))) ∧
 (∀(k:FloatKind) (k':FloatKind) (x:Nat) (y:Nat),gk (.gtr) k k' x y=.ok (k=k') (.bool (k.format.order x y==some .gt))) ∧
 (∀(k:FloatKind) (k':FloatKind) (x:Nat) (y:Nat),gk (.leq) k k' x y=.ok (k=k') (.bool (k.format.order x y==some .lt||k.format.order x y==some .eq))) ∧
 (∀(k:FloatKind) (k':FloatKind) (x:Nat) (y:Nat),gk (.geq) k k' x y=.ok (k=k') (.bool (k.format.order x y==some .gt||k.format.order x y==some .eq))):=
 ⟨(fun _ _ _ _=>rfl),(fun _ _ _ _=>rfl),(fun _ _ _ _=>rfl),(fun _ _ _ _=>rfl),(fun _ _ _ _=>rfl),(fun _ _ _ _=>rfl),(fun _ _ _ _=>rfl),(fun _ _ _ _=>rfl),(fun _ _ _ _=>rfl)⟩
theorem JV :
 (∀(k:FloatKind) (k':FloatKind) (a:Nat) (b:Nat) (c:Nat) (d:Nat),kD (.add) k k' a b c d=.ok (k=k'∧(k.format.add a c).isSome=true∧(k.format.add b d).isSome=true) (.cx k ((k.format.add a c).getD 0) ((k.format.add b d).getD 0))) ∧
 (∀(k:FloatKind) (k':FloatKind) (a:Nat) (b:Nat) (c:Nat) (d:Nat),kD (.sub) k k' a b c d=.ok (k=k'∧(k.format.sub a c).isSome=true∧(k.format.sub b d).isSome=true) (.cx k ((k.format.sub a c).getD 0) ((k.format.sub b d).getD 0))) ∧
 (∀(k:FloatKind) (k':FloatKind) (a:Nat) (b:Nat) (c:Nat) (d:Nat),kD (.eql) k k' a b c d=.ok (k=k') (.bool (k.format.order a c==some .eq&&k.format.order b d==some .eq))) ∧
 (∀(k:FloatKind) (k':FloatKind) (a:Nat) (b:Nat) (c:Nat) (d:Nat),kD (.neq) k k' a b c d=.ok (k=k') (.bool (!(k.format.order a c==some .eq&&k.format.order b d==some .eq)))):=
 ⟨(fun _ _ _ _ _ _=>rfl),(fun _ _ _ _ _ _=>rfl),(fun _ _ _ _ _ _=>rfl),(fun _ _ _ _ _ _=>rfl)⟩
theorem Gm :
 (∀(γ:Bool) (op:BinOp) k a k' b,binR γ op (.int k a) (.int k' b)=intR γ op k k' a b) ∧
 (∀(γ:Bool) (op:BinOp) a b,binR γ op (.str a) (.str b)=iW γ op a b) ∧
 (∀(γ:Bool) (op:BinOp) k a k' b,binR γ op (.fl k a) (.fl k' b)=gk op k k' a b) ∧
 (∀(γ:Bool) (op:BinOp) k a b k' c d,binR γ op (.cx k a b) (.cx k' c d)=kD op k k' a b c d):=
 ⟨(fun _ _ _ _ _ _=>rfl),(fun _ _ _ _=>rfl),(fun _ _ _ _ _ _=>rfl),(fun _ _ _ _ _ _ _ _=>rfl)⟩
theorem Gg :
 (∀(neg:Bool) a b,beqR neg (.bool a) (.bool b)=.ok True (.bool (if neg then !(a==b)else a==b))):=
 (fun _ _ _=>rfl)
theorem Nb :
 (∀a b,eqOK 0 (.bool a) (.bool b)=true)∧(∀k a k' b,eqOK 1 (.int k a) (.int k' b)=(k==k'))∧(∀a b,eqOK 2 (.str a) (.str b)=true):=⟨(fun _ _=>rfl),(fun _ _ _ _=>rfl),(fun _ _=>rfl)⟩
theorem M8 :
 (∀a b,eqC (.bool a) (.bool b)=(a==b))∧(∀k a k' b,eqC (.int k a) (.int k' b)=decide (a=b))∧(∀a b,eqC (.str a) (.str b)=(a==b)):=⟨(fun _ _=>rfl),(fun _ _ _ _=>rfl),(fun _ _=>rfl)⟩
theorem Tq (k:IntKind):(k==k)=true:=by cases k<;>decide
theorem Nd:eqOKs [] [] []=true:=(rfl)
theorem Nc (k:Nat) (ks:List Nat) (c:AV) (cs:List AV) (d:AV) (ds:List AV):eqOKs (k::ks) (c::cs) (d::ds)=(eqOK k c d&&eqOKs ks cs ds):=(rfl)
theorem Na:eqCs [] []=true:=(rfl)
theorem M9 (c:AV) (cs:List AV) (d:AV) (ds:List AV):eqCs (c::cs) (d::ds)=(eqC c d&&eqCs cs ds):=(rfl)
theorem D5 (γ neg:Bool) (ks:List Nat) (cs ds:List AV):aeqR γ neg ks (.agg cs) (.agg ds)=.ok (γ=true→eqOKs ks cs ds=true) (.bool (if neg then !(eqCs cs ds)else eqCs cs ds)):=(rfl)
theorem EY (γ:Bool) (st:St) (neg:Bool) (ks:List Nat) (x y:AE):avalR γ st (.mL neg ks x y)=andR (aB γ (ev st x)) (andR (aB γ (ev st y)) (aeqR γ neg ks (stripV (ev st x)) (stripV (ev st y)))):=(rfl)
theorem anu :
 (∀b,unR (.not) (.bool b)=.ok True (.bool (!b))) ∧
 (∀k n,unR (.neg) (.int k n)=.ok True (.int k (k.wrap (0-n)))) ∧
 (∀k n,unR (.xor) (.int k n)=.ok True (.int k (bits .xor k (if k.signed then -1 else k.max) n))):=
 ⟨(fun _=>rfl),(fun _ _=>rfl),(fun _ _=>rfl)⟩
theorem JQ :
 (∀(k:IntKind) u1 n,cviR k (.int u1 n)=.ok True (.int k (k.wrap n))):=
 (fun _ _ _=>rfl)
theorem Ix :
 (∀(k:FloatKind) u1 n,o6 k (.int u1 n)=.ok True (.fl k (k.nearest n))):=
 (fun _ _ _=>rfl)
theorem Ik :
 (∀(γ:Bool) (k:IntKind) s b,cfiR γ k (.fl s b)=.ok (γ=true→(floatToIntVal s b k).isSome=true) (.int k ((floatToIntVal s b k).getD 0))):=
 (fun _ _ _ _=>rfl)
theorem JL :
 (∀s,cstR (.str s)=.ok True (.str s)):=
 (fun _=>rfl)
theorem HF :
 (∀(γ:Bool) es,btsR γ (some es)=.ok (γ=true→gB es=true) (.str (bytesOf es))) ∧
 (∀(γ:Bool),btsR γ (none)=.fail):=
 ⟨(fun _ _=>rfl),(fun _=>rfl)⟩
theorem Jb :
 (∀k a k' b,cplxR (.fl k a) (.fl k' b)=.ok (k=k') (.cx k a b)):=
 (fun _ _ _ _=>rfl)
theorem aih :
 (∀k a u1,reR (.cx k a u1)=.ok True (.fl k a)):=
 (fun _ _ _=>rfl)
theorem TE :
 (∀k u1 b,p5 (.cx k u1 b)=.ok True (.fl k b)):=
 (fun _ _ _=>rfl)
theorem Zx :
 (∀l,lenR (true) (.str l)=.ok True (.int .i64 l.length)) ∧
 (∀u1 es,lenR (false) (.ro u1 es)=.ok True (.int .i64 es.length)) ∧
 (∀u1 u2 n,lenR (false) (.sl u1 u2 n)=.ok True (.int .i64 n)) ∧
 (lenR (false) (.aq)=.ok True (.int .i64 0)):=
 ⟨(fun _=>rfl),(fun _ _=>rfl),(fun _ _ _=>rfl),rfl⟩
theorem aa7 :
 (∀(mx:Bool) k a u1 b,mmR mx (.int k a) (.int u1 b)=.ok True (.int k (if mx then(if b > a then b else a)else(if b<a then b else a)))):=
 (fun _ _ _ _ _=>rfl)
theorem Ni :
 (∀(i:Nat) vs,extR (.ai vs) i=.ok (i<vs.length) (vs.getD i .undef)):=
 (fun _ _=>rfl)
theorem abv :
 (∀e,nilcR (.aA e)=.ok True (.aA e)) ∧
 (∀id f,nilcR (.ab id f)=.ok True (.ab id f)):=
 ⟨(fun _=>rfl),(fun _ _=>rfl)⟩
theorem SI :
 (∀(γ:Bool) (sz:Nat) (id:Nat) (off:Nat) (n:Nat) (i:Int) sz' u1,idxW γ sz (some (.arr sz' u1)) id off n i=.ok ((γ=true→0≤i∧i<n)∧0<sz∧sz'=sz) (.ptr id (off+i.toNat) 0)):=
 (fun _ _ _ _ _ _ _ _=>rfl)
theorem SG :
 (∀(γ:Bool) (st:St) (sz:Nat) sz' es u1 i,idxR γ st sz (.ro sz' es) (.int u1 i)=.ok ((γ=true→0≤i∧i<es.length)∧0<sz∧sz'=sz) (.aA (nth es i.toNat))) ∧
 (∀(γ:Bool) (st:St) (sz:Nat) id off n u1 i,idxR γ st sz (.sl id off n) (.int u1 i)=idxW γ sz (hget st.h id) id off n i):=
 ⟨(fun _ _ _ _ _ _ _=>rfl),(fun _ _ _ _ _ _ _ _=>rfl)⟩
theorem aks :
 (∀(γ:Bool) l u1 i,sidxR γ (.str l) (.int u1 i)=.ok (γ=true→0≤i∧i<l.length) (.int .u8 (l.getD i.toNat 0).toNat)):=
 (fun _ _ _ _=>rfl)
theorem Zm :
 (∀(γ:Bool) (n:Nat) (cs:List AV),ldcR γ (true) n cs=.ok (γ=true→n≤cs.length) (.agg (cs.take n))) ∧
 (∀(γ:Bool) (n:Nat) (cs:List AV),ldcR γ (false) n cs=.ok (γ=true→0<cs.length) (cs.getD 0 .undef)):=
 ⟨(fun _ _ _=>rfl),(fun _ _ _=>rfl)⟩
theorem Zg :
 (∀(γ:Bool) (ag:Bool) (n:Nat) (i:Nat) (f:Nat) u1 es,qd γ ag n i f (some (.arr u1 es))=ldcR γ ag n ((cellsOf (nth es i)).drop f)):=
 (fun _ _ _ _ _ _ _=>rfl)
theorem Zl :
 (∀(γ:Bool) (ag:Bool) (n:Nat) (f:Nat) cs,ldV γ ag n f (some (.var cs))=ldcR γ ag n (cs.drop f)):=
 (fun _ _ _ _ _=>rfl)
theorem Zk :
 (∀(γ:Bool) (st:St) (ag:Bool) (n:Nat) e,ldR γ st ag n (.aA e)=ldcR γ ag n (cellsOf e)) ∧
 (∀(γ:Bool) (st:St) (ag:Bool) (n:Nat) id i f,ldR γ st ag n (.ptr id i f)=qd γ ag n i f (hget st.h id)) ∧
 (∀(γ:Bool) (st:St) (ag:Bool) (n:Nat) id f,ldR γ st ag n (.ab id f)=ldV γ ag n f (hget st.h id)):=
 ⟨(fun _ _ _ _ _=>rfl),(fun _ _ _ _ _ _ _=>rfl),(fun _ _ _ _ _ _=>rfl)⟩
theorem FV :
 (∀(γ:Bool) (n:Nat) (c:Prop) u1 l,oO γ n c (.int u1 l)=.ok (c∧(γ=true→0≤l∧l≤n)) l.toNat n):=
 (fun _ _ _ _ _=>rfl)
theorem FW :
 (∀(γ:Bool) (n:Nat) (c:Prop) u1 h,oP γ n c (.int u1 h)=.ok (c∧(γ=true→0≤h∧h≤n)) 0 h.toNat):=
 (fun _ _ _ _ _=>rfl)
theorem FX :
 (∀(γ:Bool) (n:Nat) (c:Prop) (c':Prop) u1 l u2 h,oQ γ n c c' (.int u1 l) (.int u2 h)=.ok (c∧c'∧(γ=true→0≤l∧l≤h∧h≤n)) l.toNat h.toNat):=
 (fun _ _ _ _ _ _ _ _=>rfl)
theorem G6 :
 (∀(γ:Bool) (st:St) (n:Nat),bndR γ st n (none) (none)=.ok True 0 n) ∧
 (∀(γ:Bool) (st:St) (n:Nat) l,bndR γ st n (some l) (none)=oO γ n (aB γ (ev st l)) (stripV (ev st l))) ∧
 (∀(γ:Bool) (st:St) (n:Nat) h,bndR γ st n (none) (some h)=oP γ n (aB γ (ev st h)) (stripV (ev st h))) ∧
 (∀(γ:Bool) (st:St) (n:Nat) l h,bndR γ st n (some l) (some h)=oQ γ n (aB γ (ev st l)) (aB γ (ev st h)) (stripV (ev st l)) (stripV (ev st h))):=
 ⟨(fun _ _ _=>rfl),(fun _ _ _ _=>rfl),(fun _ _ _ _=>rfl),(fun _ _ _ _ _=>rfl)⟩
theorem akQ :
 (∀(s:List UInt8) c l h,slcStrR s (.ok c l h)=.ok c (.str ((s.drop l).take (h-l)))) ∧
 (∀(s:List UInt8),slcStrR s (.fail)=.fail):=
 ⟨(fun _ _ _ _=>rfl),(fun _=>rfl)⟩
theorem akO :
 (∀(γ:Bool) (st:St) (lo:Option AE) (hi:Option AE) s,qW γ st lo hi (.str s)=slcStrR s (bndR γ st s.length lo hi)):=
 (fun _ _ _ _ _=>rfl)
theorem akM :
 (∀c u1 u2,nS (.ok c u1 u2)=.ok c .aq) ∧
 (nS (.fail)=.fail):=
 ⟨(fun _ _ _=>rfl),rfl⟩
theorem akN :
 (∀(sz:Nat) (sz':Nat) (es:List AV) c l h,nT sz sz' es (.ok c l h)=.ok (sz'=sz∧c) (.ro sz (aG es l (h-l)))) ∧
 (∀(sz:Nat) (sz':Nat) (es:List AV),nT sz sz' es (.fail)=.fail):=
 ⟨(fun _ _ _ _ _ _=>rfl),(fun _ _ _=>rfl)⟩
theorem akP :
 (∀(sz:Nat) (id:Nat) (off:Nat) c l h sz' u1,slcSlR sz id off (some (.arr sz' u1)) (.ok c l h)=.ok (c∧sz'=sz) (.sl id (off+l) (h-l))):=
 (fun _ _ _ _ _ _ _ _=>rfl)
theorem akL :
 (∀(γ:Bool) (st:St) (sz:Nat) (lo:Option AE) (hi:Option AE),slcAR γ st sz lo hi (.aq)=nS (bndR γ st 0 lo hi)) ∧
 (∀(γ:Bool) (st:St) (sz:Nat) (lo:Option AE) (hi:Option AE) sz' es,slcAR γ st sz lo hi (.ro sz' es)=nT sz sz' es (bndR γ st es.length lo hi)) ∧
 (∀(γ:Bool) (st:St) (sz:Nat) (lo:Option AE) (hi:Option AE) id off n,slcAR γ st sz lo hi (.sl id off n)=slcSlR sz id off (hget st.h id) (bndR γ st n lo hi)):=
 ⟨(fun _ _ _ _ _=>rfl),(fun _ _ _ _ _ _ _=>rfl),(fun _ _ _ _ _ _ _ _=>rfl)⟩
theorem Og :
 (∀(off:Nat) (id:Nat) (i:Nat) (f:Nat) sz u1,pH off (some (.arr sz u1)) id i f=.ok (f+off<sz) (.ptr id i (f+off))):=
 (fun _ _ _ _ _ _=>rfl)
theorem Od :
 (∀(γ:Bool) (off:Nat) (n:Nat) (cs:List AV),pG γ (true) off n cs=.ok ((γ=true→off+n≤cs.length)∧0<n) (.aA (.agg ((cs.drop off).take n)))) ∧
 (∀(γ:Bool) (off:Nat) (n:Nat) (cs:List AV),pG γ (false) off n cs=.ok ((γ=true→off+n≤cs.length)∧0<n∧n=1∧isCell (cs.getD off .undef)=true) (.aA (cs.getD off .undef))):=
 ⟨(fun _ _ _ _=>rfl),(fun _ _ _ _=>rfl)⟩
theorem Oc :
 (∀(γ:Bool) (st:St) (ag:Bool) (off:Nat) (n:Nat) e,kK γ st ag off n (.aA e)=pG γ ag off n (cellsOf e)) ∧
 (∀(γ:Bool) (st:St) (ag:Bool) (off:Nat) (n:Nat) id i f,kK γ st ag off n (.ptr id i f)=pH off (hget st.h id) id i f) ∧
 (∀(γ:Bool) (st:St) (ag:Bool) (off:Nat) (n:Nat) id f,kK γ st ag off n (.ab id f)=.ok True (.ab id (f+off))):=
 ⟨(fun _ _ _ _ _ _=>rfl),(fun _ _ _ _ _ _ _ _=>rfl),(fun _ _ _ _ _ _ _=>rfl)⟩
theorem Oe :
 (∀(γ:Bool) (ag:Bool) (off:Nat) (n:Nat) cs,fldR γ ag off n (.agg cs)=.ok ((γ=true→off+n≤cs.length)∧0<n) (if ag then .agg ((cs.drop off).take n)else cs.getD off .undef)):=
 (fun _ _ _ _ _=>rfl)
theorem E7 :
 (∀(γ:Bool) (st:St) x,avalR γ st (.ah x)=andR (aB γ (ev st x)) (.ok True (stripV (ev st x)))) ∧
 (∀(γ:Bool) (st:St) c x y,avalR γ st (.pick c x y)=andR (aB γ (ev st c)) (pickR γ (stripV (ev st c)) (ev st x) (ev st y))) ∧
 (∀(γ:Bool) (st:St) op x y,avalR γ st (.bin op x y)=andR (aB γ (ev st x)) (andR (aB γ (ev st y)) (binR γ op (stripV (ev st x)) (stripV (ev st y))))) ∧
 (∀(γ:Bool) (st:St) neg x y,avalR γ st (.beq neg x y)=andR (aB γ (ev st x)) (andR (aB γ (ev st y)) (beqR neg (stripV (ev st x)) (stripV (ev st y))))) ∧
 (∀(γ:Bool) (st:St) op x,avalR γ st (.un op x)=andR (aB γ (ev st x)) (unR op (stripV (ev st x)))) ∧
 (∀(γ:Bool) (st:St) k x,avalR γ st (.bh k x)=andR (aB γ (ev st x)) (cviR k (stripV (ev st x)))) ∧
 (∀(γ:Bool) (st:St) k x,avalR γ st (.o5 k x)=andR (aB γ (ev st x)) (o6 k (stripV (ev st x)))) ∧
 (∀(γ:Bool) (st:St) k x,avalR γ st (.o0 k x)=andR (aB γ (ev st x)) (cfiR γ k (stripV (ev st x)))) ∧
 (∀(γ:Bool) (st:St) x,avalR γ st (.pc x)=andR (aB γ (ev st x)) (cstR (stripV (ev st x)))) ∧
 (∀(γ:Bool) (st:St) x,avalR γ st (.ix x)=andR (aB γ (ev st x)) (btsR γ (slE 1 st (stripV (ev st x))))) ∧
 (∀(γ:Bool) (st:St) x y,avalR γ st (.o8 x y)=andR (aB γ (ev st x)) (andR (aB γ (ev st y)) (cplxR (stripV (ev st x)) (stripV (ev st y))))) ∧
 (∀(γ:Bool) (st:St) x,avalR γ st (.re x)=andR (aB γ (ev st x)) (reR (stripV (ev st x)))) ∧
 (∀(γ:Bool) (st:St) x,avalR γ st (.im x)=andR (aB γ (ev st x)) (p5 (stripV (ev st x)))) ∧
 (∀(γ:Bool) (st:St) str x,avalR γ st (.len str x)=andR (aB γ (ev st x)) (lenR str (stripV (ev st x)))) ∧
 (∀(γ:Bool) (st:St) mx x y,avalR γ st (.mm mx x y)=andR (aB γ (ev st x)) (andR (aB γ (ev st y)) (mmR mx (stripV (ev st x)) (stripV (ev st y))))) ∧
 (∀(γ:Bool) (st:St) x i,avalR γ st (.ext x i)=andR (aB γ (ev st x)) (extR (stripV (ev st x)) i)) ∧
 (∀(γ:Bool) (st:St) x,avalR γ st (.au x)=andR (aB γ (ev st x)) (nilcR (stripV (ev st x)))) ∧
 (∀(γ:Bool) (st:St) sz x i,avalR γ st (.aX sz x i)=andR (aB γ (ev st x)) (andR (aB γ (ev st i)) (idxR γ st sz (stripV (ev st x)) (stripV (ev st i))))) ∧
 (∀(γ:Bool) (st:St) x i,avalR γ st (.cI x i)=andR (aB γ (ev st x)) (andR (aB γ (ev st i)) (sidxR γ (stripV (ev st x)) (stripV (ev st i))))) ∧
 (∀(γ:Bool) (st:St) ag n x,avalR γ st (.ld ag n x)=andR (aB γ (ev st x)) (ldR γ st ag n (stripV (ev st x)))) ∧
 (∀(γ:Bool) (st:St) x lo hi,avalR γ st (.bH x lo hi)=andR (aB γ (ev st x)) (qW γ st lo hi (stripV (ev st x)))) ∧
 (∀(γ:Bool) (st:St) sz x lo hi,avalR γ st (.lg sz x lo hi)=andR (aB γ (ev st x)) (slcAR γ st sz lo hi (stripV (ev st x)))) ∧
 (∀(γ:Bool) (st:St) ag off n x,avalR γ st (.aj ag off n x)=andR (aB γ (ev st x)) (kK γ st ag off n (stripV (ev st x)))) ∧
 (∀(γ:Bool) (st:St) ag off n x,avalR γ st (.pF ag off n x)=andR (aB γ (ev st x)) (fldR γ ag off n (stripV (ev st x)))):=
 ⟨(fun _ _ _=>rfl),(fun _ _ _ _ _=>rfl),(fun _ _ _ _ _=>rfl),(fun _ _ _ _ _=>rfl),(fun _ _ _ _=>rfl),(fun _ _ _ _=>rfl),(fun _ _ _ _=>rfl),(fun _ _ _ _=>rfl),(fun _ _ _=>rfl),(fun _ _ _=>rfl),(fun _ _ _ _=>rfl),(fun _ _ _=>rfl),(fun _ _ _=>rfl),(fun _ _ _ _=>rfl),(fun _ _ _ _ _=>rfl),(fun _ _ _ _=>rfl),(fun _ _ _=>rfl),(fun _ _ _ _ _=>rfl),(fun _ _ _ _=>rfl),(fun _ _ _ _ _=>rfl),(fun _ _ _ _ _=>rfl),(fun _ _ _ _ _ _=>rfl),(fun _ _ _ _ _ _=>rfl),(fun _ _ _ _ _ _=>rfl)⟩
theorem Gp (γ:Bool) (st:St) (cs:List AV):bldR γ st [] cs=.ok True (.agg cs):=(rfl)
theorem Gn (γ:Bool) (st:St) (o n:Nat) (x:AE) (r:List (Nat×Nat×AE)) (cs:List AV) :
    bldR γ st ((o,n,x)::r) cs=andR (aB γ (ev st x)) (andR (γ=true→aQ (stripV (ev st x))=true∧(cellsOf (stripV (ev st x))).length=n∧o+n≤cs.length) (bldR γ st r (cs.take o++cellsOf (stripV (ev st x))++cs.drop (o+n)))):=(rfl)
theorem EZ (γ:Bool) (st:St) (z:List AV) (ps:List (Nat×Nat×AE)):avalR γ st (.bD z ps)=bldR γ st ps z:=(rfl)
theorem E8 (γ:Bool) (st:St) (len sz:Nat) (x i:AE):avalR γ st (.cU len sz x i)=andR (aB γ (ev st x)) (andR (aB γ (ev st i)) (idxPR γ len sz (stripV (ev st x)) (stripV (ev st i)))):=(rfl)
theorem E9 (γ:Bool) (st:St) (len:Nat) (x i:AE):avalR γ st (.l7 len x i)=andR (aB γ (ev st x)) (andR (aB γ (ev st i)) (idxVR γ len (stripV (ev st x)) (stripV (ev st i)))):=(rfl)
theorem Fg (γ:Bool) (st:St) (neg:Bool) (x:AE):avalR γ st (.ka neg x)=andR (aB γ (ev st x)) (snilR γ st neg (stripV (ev st x))):=(rfl)
theorem SD (γ:Bool) (len sz:Nat) (cs:List AV) (k:IntKind) (i:Int):idxPR γ len sz (.aA (.agg cs)) (.int k i)=.ok ((γ=true→0≤i∧i<len∧i<cs.length)∧sz=1∧isCell (cs.getD i.toNat .undef)=true) (.aA (cs.getD i.toNat .undef)):=(rfl)
theorem SE (γ:Bool) (len sz id f:Nat) (k:IntKind) (i:Int):idxPR γ len sz (.ab id f) (.int k i)=.ok (γ=true→0≤i∧i<len) (.ab id (f+i.toNat*sz)):=(rfl)
theorem SH (γ:Bool) (len:Nat) (cs:List AV) (k:IntKind) (i:Int):idxVR γ len (.agg cs) (.int k i)=.ok (γ=true→0≤i∧i<len∧i<cs.length) (cs.getD i.toNat .undef):=(rfl)
theorem alI (γ neg:Bool) (n sz:Nat) (es:List AV):qY γ neg n (some (.arr sz es))=.ok (γ=true→0<n) (.bool neg):=(rfl)
theorem Fa (γ:Bool) (st:St) (neg:Bool) (x:AE):avalR γ st (.l9 neg x)=andR (aB γ (ev st x)) (inilR γ neg (stripV (ev st x))):=(rfl)
theorem Fc (γ:Bool) (st:St) (t:TypeId) (x:AE):avalR γ st (.fx t x)=andR (aB γ (ev st x)) (mkiR t (stripV (ev st x))):=(rfl)
theorem E6 (γ:Bool) (st:St) (x:AE):avalR γ st (.ph x)=andR (aB γ (ev st x)) (pn (stripV (ev st x))):=(rfl)
def kU (st:St):List AE→List AV
 | []=>[]
 | x::r=>ev st x::kU st r
theorem zZ (st:St):∀l,l.map (ev st)=kU st l
 | []=>rfl
 | x::r=>by rw[List.map_cons,zZ st r];rfl
theorem aaM (st:St):kU st []=[]∧(∀x r,kU st (x::r)=ev st x::kU st r):=⟨rfl,fun _ _=>rfl⟩
theorem aov:lv []=true∧(∀i f r,lv (.ab i f::r)=lv r):=⟨rfl,fun _ _ _=>rfl⟩
theorem Fb (γ:Bool) (st:St) (f:Nat) (xs:List AE):avalR γ st (.qh f xs)=.ok (lv (kU st xs)=true) (.aJ f (kU st xs)):=by rw[←zZ];rfl
theorem Xy (f:Nat) (cs:List AV) (a:AV):keep1 (.aJ f cs) a=[]:=(rfl)
theorem XA (p f g:Nat) (cs:List AV):keep1 (.ab p f) (.aJ g cs)=[]:=(rfl)
theorem F3 (s:List (Nat×AV)) (h:HP) (k0 f:Nat) (cs:List AV):back1 s h k0 (.aJ f cs)=[]:=(rfl)
theorem JR (k:IntKind) (n:Int):pn (.int k n)=.ok True (.str (Utf8.encode n).data.toList):=(rfl)
theorem aaX (t:TypeId):mkiR t (.agg [])=.ok True (.lit (.iface t (.agg #[]))):=(rfl)
theorem aaW (t:TypeId) (k:IntKind) (n:Int):mkiR t (.int k n)=.ok True (.lit (.iface t (.int k n))):=(rfl)
theorem aaZ (id:Nat) (st:St) (sz bytes:Nat) (z:List AV) (n m:Int):mksR id st sz bytes z (.int .i64 n) (.int .i64 m)=.ok (0≤n∧m=n∧n≤16777216∧n*bytes≤16777216∧z.all noRefC=true∧z.length=sz) (.sl id 0 n.toNat) (bL st id (.arr sz (List.replicate n.toNat (packC z)))):=(rfl)
theorem Ff (γ:Bool) (st:St) (neg:Bool) (x:AE):avalR γ st (.gZ neg x)=andR (aB γ (ev st x)) (pnilR neg (stripV (ev st x))):=(rfl)
theorem ag5 (neg:Bool) (x:AV):pnilR neg (.aA x)=.ok True (.bool neg):=(rfl)
theorem ag7 (neg:Bool) (i f:Nat):pnilR neg (.ab i f)=.ok True (.bool neg):=(rfl)
theorem ag6 (neg:Bool):pnilR neg (.lit (.pointer none))=.ok True (.bool (!neg)):=(rfl)
theorem T1 (γ neg:Bool):inilR γ neg (.lit .nilIface)=.ok True (.bool (if neg then false else true)):=by cases neg<;>simp[inilR,isNilV,isIfV]
theorem T0 (γ neg:Bool) (t:TypeId) (v:Value):inilR γ neg (.lit (.iface t v))=.ok True (.bool (if neg then true else false)):=by cases neg<;>simp[inilR,isNilV,isIfV]
theorem Fe (γ:Bool) (st:St) kd ok z (x i:AE):avalR γ st (.qi kd ok z x i)=andR (aB γ (ev st x)) (andR (aB γ (ev st i)) (mlkR st kd ok z (stripV (ev st x)) (stripV (ev st i)))):=(rfl)
theorem aaV (l:List UInt8):mkOf (.str l)=some (.s l):=(rfl)
theorem aaU (k:IntKind) (n:Int):mkOf (.int k n)=some (.i k n):=(rfl)
theorem aa3 (st:St) kd ok z id i f (x:AV):mlkR st kd ok z (.ptr id i f) x=mlkK st kd ok z id (mkOf x):=(rfl)
theorem aa1 (st:St) kd ok z id k:mlkK st kd ok z id (some k)=mlkW kd ok z k (hget st.h id):=(rfl)
theorem aa4 kd ok z k kd' (l:List (MK×AV)):mlkW kd ok z k (some (.mp kd' l))=.ok (kd'=kd∧MK.ok kd k) (nu ok z (mfind l k)):=(rfl)
theorem aba (z:AV) (o:Option AV):nu true z o=.ai [o.getD z,.bool o.isSome]:=(rfl)
theorem aa9 (z:AV) (o:Option AV):nu false z o=o.getD z:=(rfl)
theorem Dp (b:List UInt8):MK.ok none (.s b)=True:=(rfl)
theorem Dn (k k':IntKind) (n:Int):MK.ok (some k) (.i k' n)=(k'=k):=(rfl)
theorem abc (st:St) kd id i f (k v:AV):mupR st kd (.ptr id i f) k v=mupK st id kd (mkOf k) v:=(rfl)
theorem abb (st:St) id kd k (v:AV):mupK st id kd (some k) v=mupW st id kd k v (hget st.h id):=(rfl)
theorem abd (st:St) id kd k (v:AV) kd' (l:List (MK×AV)):mupW st id kd k v (some (.mp kd' l))=.ok (kd'=kd∧MK.ok kd k∧bB v=true) .undef ⟨st.s,bz st.h id (.mp kd (mput l k v))⟩:=(rfl)
theorem MM (id:Nat) (st:St) kd:effR id st (.ma kd)=.ok True (.ptr id 0 0) (bL st id (.mp kd [])):=(rfl)
theorem MN (id:Nat) (st:St) kd x k v:effR id st (.nv kd x k v)=mupR st kd (ev st x) (ev st k) (ev st v):=(rfl)
theorem alH :
 (∀(γ:Bool) (st:St) (neg:Bool),snilR γ st neg (.aq)=.ok True (.bool (!neg))) ∧
 (∀(γ:Bool) (st:St) (neg:Bool) id o n,snilR γ st neg (.sl id o n)=qY γ neg n (hget st.h id)) ∧
 (∀(γ:Bool) (st:St) (neg:Bool) sz es,snilR γ st neg (.ro sz es)=.ok (γ=true→0<es.length∧0<sz) (.bool neg)):=
 ⟨(fun _ _ _=>rfl),(fun _ _ _ _ _ _=>rfl),(fun _ _ _ _ _=>rfl)⟩
theorem XK :
 (∀(st:St) (id:Nat) (o:Nat) (n:Nat) sz es,keepSl st id o n (some (.arr sz es))=.ok True (.ro sz (aG es o n)) (freeze st id)):=
 (fun _ _ _ _ _ _=>rfl)
theorem aiD :
 (∀(c:Prop) (v:AV) d vs st,rl2 c v (.ok d vs st)=.ok (c∧d) (v::vs) st) ∧
 (∀(c:Prop) (v:AV),rl2 c v (.fail)=.fail):=
 ⟨(fun _ _ _ _ _=>rfl),(fun _ _=>rfl)⟩
theorem aiC :
 (∀(r:List AE) c v st1,uz r (.ok c v st1)=rl2 c v (keepLR r st1)) ∧
 (∀(r:List AE),uz r (.fail)=.fail):=
 ⟨(fun _ _ _ _=>rfl),(fun _=>rfl)⟩
theorem HD :
 (∀(id:Nat) (sz:Nat) c es st',mU id sz (.ok c es st')=.ok (c∧es.all (fun e=>(cellsOf e).length==sz)=true) (.sl id 0 es.length) (bL st' id (.arr sz es))) ∧
 (∀(id:Nat) (sz:Nat),mU id sz (.fail)=.fail):=
 ⟨(fun _ _ _ _ _=>rfl),(fun _ _=>rfl)⟩
theorem EJ :
 (∀(st:St) (sz:Nat) (bytes:Nat) (id:Nat) (off:Nat) (n:Nat) (xs:List AV) sz' es,oH st sz bytes id off n xs (some (.arr sz' es))=.ok (xs.all aQ=true∧sz'=sz∧(aG es off n).all aQ=true∧(n+xs.length)*bytes≤140737488355328∧n+xs.length≤9223372036854775807) (.sl id 0 (n+xs.length)) (bL st id (.arr sz (aG es off n++xs)))):=
 (fun _ _ _ _ _ _ _ _ _=>rfl)
theorem EI :
 (∀(d:Nat) (st:St) (sz:Nat) (bytes:Nat) xs,appR d st sz bytes (.aq) (some xs)=.ok (xs.all aQ=true∧xs.length*bytes≤140737488355328∧xs.length≤9223372036854775807) (.sl d 0 xs.length) (bL st d (.arr sz xs))) ∧
 (∀(d:Nat) (st:St) (sz:Nat) (bytes:Nat) xs id off n,appR d st sz bytes (.sl id off n) (some xs)=oH st sz bytes id off n xs (hget st.h id)):=
 ⟨(fun _ _ _ _ _=>rfl),(fun _ _ _ _ _ _ _ _=>rfl)⟩
theorem amd :
 (∀(st:St) (n:Nat) (id:Nat) (i:Nat) (f:Nat) (v:AV) sz es,q8 st n id i f v (some (.arr sz es))=.ok ((cellsOf v).length=n∧0<n∧f+n≤sz) .undef ⟨st.s,bz st.h id (.arr sz (es.set i (ia (nth es i) f v)))⟩):=
 (fun _ _ _ _ _ _ _ _=>rfl)
theorem al6 :
 (∀(n:Nat) (id:Nat) (i:Nat) (f:Nat) (c:Prop) (v:AV) (st:St) d u st',nY n id i f c v st (.ok d u st')=.ok (c∧d) u st') ∧
 (∀(n:Nat) (id:Nat) (i:Nat) (f:Nat) (c:Prop) (v:AV) (st:St),nY n id i f c v st (.fail)=.fail):=
 ⟨(fun _ _ _ _ _ _ _ _ _ _=>rfl),(fun _ _ _ _ _ _ _=>rfl)⟩
theorem al7 :
 (∀(n:Nat) (id:Nat) (i:Nat) (f:Nat) c v st,nX n id i f (.ok c v st)=nY n id i f c v st (q8 st n id i f v (hget st.h id))) ∧
 (∀(n:Nat) (id:Nat) (i:Nat) (f:Nat),nX n id i f (.fail)=.fail):=
 ⟨(fun _ _ _ _ _ _ _=>rfl),(fun _ _ _ _=>rfl)⟩
theorem amc :
 (∀(st:St) (n:Nat) (id:Nat) (f:Nat) (v:AV) cs,stV st n id f v (some (.var cs))=.ok (aQ v=true∧(cellsOf v).length=n∧f+n≤cs.length) .undef ⟨st.s,bz st.h id (.var (bU cs f (cellsOf v)))⟩):=
 (fun _ _ _ _ _ _=>rfl)
theorem al9 :
 (∀(st:St) (n:Nat) (v:AV) id i f,stR st n (.ptr id i f) v=nX n id i f (keepR st v)) ∧
 (∀(st:St) (n:Nat) (v:AV) id f,stR st n (.ab id f) v=stV st n id f v (hget st.h id)):=
 ⟨(fun _ _ _ _ _ _=>rfl),(fun _ _ _ _ _=>rfl)⟩
theorem ami :
 (∀(st:St) (id:Nat) l,stbR st id (.str l)=.ok True (.sl id 0 l.length) (bL st id (.arr 1 (l.map ub)))):=
 (fun _ _ _=>rfl)
theorem ML :
 (∀(id:Nat) (st:St) z,effR id st (.alloc z)=.ok (z.all noRefC=true) (.ab id 0) (bL st id (.var (z.map (killC id))))) ∧
 (∀(id:Nat) (st:St) n x,effR id st (.box n x)=.ok (aQ (ev st x)=true∧(cellsOf (ev st x)).length=n) (.ab id 0) (bL st id (.var ((cellsOf (ev st x)).map (killC id))))) ∧
 (∀(id:Nat) (st:St) sz xs,effR id st (.cm sz xs)=mU id sz (keepLR xs st)) ∧
 (∀(id:Nat) (st:St) sz bytes s x,effR id st (.app sz bytes s x)=appR id st sz bytes (ev st s) (srcE sz st (ev st x))) ∧
 (∀(id:Nat) (st:St) n x v,effR id st (.st n x v)=stR st n (ev st x) (ev st v)) ∧
 (∀(id:Nat) (st:St) sz b z l c,effR id st (.kW sz b z l c)=mksR id st sz b z (ev st l) (ev st c)) ∧
 (∀(id:Nat) (st:St) x,effR id st (.mw x)=stbR st id (ev st x)):=
 ⟨(fun _ _ _=>rfl),(fun _ _ _ _=>rfl),(fun _ _ _ _=>rfl),(fun _ _ _ _ _ _=>rfl),(fun _ _ _ _ _=>rfl),(fun _ _ _ _ _ _ _=>rfl),(fun _ _ _=>rfl)⟩
attribute [go_sem] Ff ag5 ag7 ag6 Fe aaV aaU aa3 aa1 aa4 aba aa9 Dp Dn abc abb abd MM MN Option.isSome_some Option.isSome_none Option.getD_some Option.getD_none aaM aov Fb Xy XA F3 Nh ahR Ps abr XT Pa ain Xv TK N4 TH NZ abj abV aim ail ama al5 al4 SK SJ akJ Xt XB XC XD Xz FY Ga F7 F9 F4 D8 al0 akI HU ajH afM agU agV XJ Ep T4 amp N2 JV Gm Gg Nb Tq M8 Nd Nc Na M9 D5 EY anu JQ Ix Ik JL HF Jb aih TE Zx aa7 Ni abv SI SG aks Zm Zg Zl Zk FV FW FX G6 akQ akO akM akN akP akL Og Od Oc Oe E7 Gp Gn EZ E8 E9 Fg SE SD SH alI alH Fa T1 T0 Fc aaX aaW aaZ E6 JR XK aiD aiC HD EJ EI amd al6 al7 amc al9 ami ML JO JN ajK ajJ Hi XH XG Hj XM XL XU O4 O3 Pb aik aij aio Xx Xw Xu Hm Hn Ge He Hk abw NY VL aby abx NW N3 Ou Ot N0 TG TF TJ amt ams
end Go.Proofs.YtoalcafkffmiiaaGreatDoor.Eng
