/- The proof, part 7 of 43. -/
import Derived.Test.YtoalcafkffmiiaaGreatDoorOdbShadowsF
set_option linter.all false
namespace Go.Proofs.YtoalcafkffmiiaaGreatDoor.Eng
def cu (b:Bool) (x:AV):AV:=match b with
 | true=>.undef
 | false=>x
def ju (b:Bool) (x y:AV):AV:=match b with
 | true=>x
 | false=>y
theorem fZ {i j:Nat} {x:AV}:(if i=j then AV.undef else x)=cu (i==j) x:=by
 by_cases h:i=j
 ·subst h;rw[if_pos rfl,show(i==i)=true by simp];rfl
 ·rw[if_neg h,show(i==j)=false by simp[h]];rfl
theorem tn {i j:Nat} {x y:AV}:(if i=j then x else y)=ju (i==j) x y:=by
 by_cases h:i=j
 ·subst h;rw[if_pos rfl,show(i==i)=true by simp];rfl
 ·rw[if_neg h,show(i==j)=false by simp[h]];rfl
theorem jI {b:Bool} {x:AV}:(if b=true then AV.undef else x)=cu b x:=by cases b<;>rfl
theorem tp {b:Bool} {x y:AV}:(if b=true then x else y)=ju b x y:=by cases b<;>rfl
theorem Kw {x:AV}:cu true x=.undef:=(rfl)
theorem Kv {x:AV}:cu false x=x:=(rfl)
theorem atK {x y:AV}:ju true x y=x:=(rfl)
theorem atJ {x y:AV}:ju false x y=y:=(rfl)
def borSl (W:Option aK) (o n:Nat):AV:=match W with
 | some (.arr sz es)=>.ro sz (aI es o n)
 | _=>.undef
theorem IB {sz o n:Nat} {es:List AV}:borSl (some (.arr sz es)) o n=.ro sz (aI es o n):=(rfl)
def keepO (W:Option aK) (x y:AV):AV:=match W with
 | some _=>x
 | none=>y
theorem Xq {W:aK} {x y:AV}:keepO (some W) x y=x:=(rfl)
theorem Xp {x y:AV}:keepO none x y=y:=(rfl)
def borV (h0 h:HP) (W:Option aK) (f:Nat):AV:=match W,f with
 | some (.var cs),0=>.az (packC (cs.map (bcell h0 h)))
 | _,_=>.undef
theorem IC {h0 h:HP} {cs:List AV}:borV h0 h (some (.var cs)) 0=.az (packC (cs.map (bcell h0 h))):=(rfl)
theorem Xv (id:Nat) :
 (killC id AV.undef=AV.undef) /\
 (∀(b:Bool),killC id (.bool b)=(.bool b)) /\
 (∀(k:IntKind) (n:Int),killC id (.int k n)=(.int k n)) /\
 (∀(k:FloatKind) (n:Nat),killC id (.fl k n)=(.fl k n)) /\
 (∀(k:FloatKind) (a b:Nat),killC id (.cx k a b)=(.cx k a b)) /\
 (∀(l:List UInt8),killC id (.str l)=(.str l)) /\
 (∀(x:Value),killC id (.lit x)=(.lit x)) /\
 (killC id AV.al=AV.al) /\
 (∀(sz0:Nat) (es0:List AV),killC id (.ro sz0 es0)=(.ro sz0 es0)) /\
 (∀(x:AV),killC id (.az x)=(.az x)) /\
 (∀(i o n:Nat),killC id (.sl i o n)=cu (i==id) (.sl i o n)) /\
 (∀(i j f:Nat),killC id (.ptr i j f)=cu (i==id) (.ptr i j f)) /\
 (∀(i f:Nat),killC id (.ab i f)=cu (i==id) (.ab i f)) /\
 (∀(cs:List AV),killC id (.agg cs)=AV.undef) /\
 (∀(cs:List AV),killC id (.ai cs)=AV.undef) /\
 (∀(b:Bool) (x:AV),killC id (.gd b x)=AV.undef) /\
 (∀(f:Nat) (cs:List AV),killC id (.aN f cs)=AV.undef):=
 ⟨rfl,λ_=>rfl,λ_ _=>rfl,λ_ _=>rfl,λ_ _ _=>rfl,λ_=>rfl,λ_=>rfl,rfl,λ_ _=>rfl,λ_=>rfl,λ_ _ _=>fZ,λ_ _ _=>fZ,λ_ _=>fZ,λ_=>rfl,λ_=>rfl,λ_ _=>rfl,λ_ _=>rfl⟩
theorem Xu (id:Nat) :
 (killA id AV.undef=AV.undef) /\
 (∀(b:Bool),killA id (.bool b)=(.bool b)) /\
 (∀(k:IntKind) (n:Int),killA id (.int k n)=(.int k n)) /\
 (∀(k:FloatKind) (n:Nat),killA id (.fl k n)=(.fl k n)) /\
 (∀(k:FloatKind) (a b:Nat),killA id (.cx k a b)=(.cx k a b)) /\
 (∀(l:List UInt8),killA id (.str l)=(.str l)) /\
 (∀(x:Value),killA id (.lit x)=(.lit x)) /\
 (killA id AV.al=AV.al) /\
 (∀(sz0:Nat) (es0:List AV),killA id (.ro sz0 es0)=(.ro sz0 es0)) /\
 (∀(x:AV),killA id (.az x)=(.az x)) /\
 (∀(i o n:Nat),killA id (.sl i o n)=cu (i==id) (.sl i o n)) /\
 (∀(i j f:Nat),killA id (.ptr i j f)=cu (i==id) (.ptr i j f)) /\
 (∀(i f:Nat),killA id (.ab i f)=cu (i==id) (.ab i f)) /\
 (∀(cs:List AV),killA id (.agg cs)=.agg (cs.map (killC id))) /\
 (∀(cs:List AV),killA id (.ai cs)=AV.undef) /\
 (∀(b:Bool) (x:AV),killA id (.gd b x)=AV.undef) /\
 (∀(f:Nat) (cs:List AV),killA id (.aN f cs)=.aN f (cs.map (killC id))):=
 ⟨rfl,λ_=>rfl,λ_ _=>rfl,λ_ _=>rfl,λ_ _ _=>rfl,λ_=>rfl,λ_=>rfl,rfl,λ_ _=>rfl,λ_=>rfl,λ_ _ _=>fZ,λ_ _ _=>fZ,λ_ _=>fZ,λ_=>rfl,λ_=>rfl,λ_ _=>rfl,λ_ _=>rfl⟩
theorem XD (id:Nat) :
 (kill id AV.undef=AV.undef) /\
 (∀(b:Bool),kill id (.bool b)=(.bool b)) /\
 (∀(k:IntKind) (n:Int),kill id (.int k n)=(.int k n)) /\
 (∀(k:FloatKind) (n:Nat),kill id (.fl k n)=(.fl k n)) /\
 (∀(k:FloatKind) (a b:Nat),kill id (.cx k a b)=(.cx k a b)) /\
 (∀(l:List UInt8),kill id (.str l)=(.str l)) /\
 (∀(x:Value),kill id (.lit x)=(.lit x)) /\
 (kill id AV.al=AV.al) /\
 (∀(sz0:Nat) (es0:List AV),kill id (.ro sz0 es0)=(.ro sz0 es0)) /\
 (∀(x:AV),kill id (.az x)=(.az x)) /\
 (∀(i o n:Nat),kill id (.sl i o n)=cu (i==id) (.sl i o n)) /\
 (∀(i j f:Nat),kill id (.ptr i j f)=cu (i==id) (.ptr i j f)) /\
 (∀(i f:Nat),kill id (.ab i f)=cu (i==id) (.ab i f)) /\
 (∀(cs:List AV),kill id (.agg cs)=.agg (cs.map (killC id))) /\
 (∀(cs:List AV),kill id (.ai cs)=.ai (cs.map (killA id))) /\
 (∀(b:Bool) (x:AV),kill id (.gd b x)=.gd b (killA id x)) /\
 (∀(f:Nat) (cs:List AV),kill id (.aN f cs)=.aN f (cs.map (killC id))):=
 ⟨rfl,λ_=>rfl,λ_ _=>rfl,λ_ _=>rfl,λ_ _ _=>rfl,λ_=>rfl,λ_=>rfl,rfl,λ_ _=>rfl,λ_=>rfl,λ_ _ _=>fZ,λ_ _ _=>fZ,λ_ _=>fZ,λ_=>rfl,λ_=>rfl,λ_ _=>rfl,λ_ _=>rfl⟩
theorem OI (id sz:Nat) (es:List AV) :
 (ck id sz es AV.undef=AV.undef) /\
 (∀(b:Bool),ck id sz es (.bool b)=(.bool b)) /\
 (∀(k:IntKind) (n:Int),ck id sz es (.int k n)=(.int k n)) /\
 (∀(k:FloatKind) (n:Nat),ck id sz es (.fl k n)=(.fl k n)) /\
 (∀(k:FloatKind) (a b:Nat),ck id sz es (.cx k a b)=(.cx k a b)) /\
 (∀(l:List UInt8),ck id sz es (.str l)=(.str l)) /\
 (∀(x:Value),ck id sz es (.lit x)=(.lit x)) /\
 (ck id sz es AV.al=AV.al) /\
 (∀(sz0:Nat) (es0:List AV),ck id sz es (.ro sz0 es0)=(.ro sz0 es0)) /\
 (∀(x:AV),ck id sz es (.az x)=(.az x)) /\
 (∀(i o n:Nat),ck id sz es (.sl i o n)=ju (i==id) (.ro sz (aI es o n)) (.sl i o n)) /\
 (∀(i j f:Nat),ck id sz es (.ptr i j f)=cu (i==id) (.ptr i j f)) /\
 (∀(i f:Nat),ck id sz es (.ab i f)=cu (i==id) (.ab i f)) /\
 (∀(cs:List AV),ck id sz es (.agg cs)=AV.undef) /\
 (∀(cs:List AV),ck id sz es (.ai cs)=AV.undef) /\
 (∀(b:Bool) (x:AV),ck id sz es (.gd b x)=AV.undef) /\
 (∀(f:Nat) (cs:List AV),ck id sz es (.aN f cs)=AV.undef):=
 ⟨rfl,λ_=>rfl,λ_ _=>rfl,λ_ _=>rfl,λ_ _ _=>rfl,λ_=>rfl,λ_=>rfl,rfl,λ_ _=>rfl,λ_=>rfl,λ_ _ _=>tn,λ_ _ _=>fZ,λ_ _=>fZ,λ_=>rfl,λ_=>rfl,λ_ _=>rfl,λ_ _=>rfl⟩
theorem OH (id sz:Nat) (es:List AV) :
 (cX id sz es AV.undef=AV.undef) /\
 (∀(b:Bool),cX id sz es (.bool b)=(.bool b)) /\
 (∀(k:IntKind) (n:Int),cX id sz es (.int k n)=(.int k n)) /\
 (∀(k:FloatKind) (n:Nat),cX id sz es (.fl k n)=(.fl k n)) /\
 (∀(k:FloatKind) (a b:Nat),cX id sz es (.cx k a b)=(.cx k a b)) /\
 (∀(l:List UInt8),cX id sz es (.str l)=(.str l)) /\
 (∀(x:Value),cX id sz es (.lit x)=(.lit x)) /\
 (cX id sz es AV.al=AV.al) /\
 (∀(sz0:Nat) (es0:List AV),cX id sz es (.ro sz0 es0)=(.ro sz0 es0)) /\
 (∀(x:AV),cX id sz es (.az x)=(.az x)) /\
 (∀(i o n:Nat),cX id sz es (.sl i o n)=ju (i==id) (.ro sz (aI es o n)) (.sl i o n)) /\
 (∀(i j f:Nat),cX id sz es (.ptr i j f)=cu (i==id) (.ptr i j f)) /\
 (∀(i f:Nat),cX id sz es (.ab i f)=cu (i==id) (.ab i f)) /\
 (∀(cs:List AV),cX id sz es (.agg cs)=.agg (cs.map (ck id sz es))) /\
 (∀(cs:List AV),cX id sz es (.ai cs)=AV.undef) /\
 (∀(b:Bool) (x:AV),cX id sz es (.gd b x)=AV.undef) /\
 (∀(f:Nat) (cs:List AV),cX id sz es (.aN f cs)=.aN f (cs.map (ck id sz es))):=
 ⟨rfl,λ_=>rfl,λ_ _=>rfl,λ_ _=>rfl,λ_ _ _=>rfl,λ_=>rfl,λ_=>rfl,rfl,λ_ _=>rfl,λ_=>rfl,λ_ _ _=>tn,λ_ _ _=>fZ,λ_ _=>fZ,λ_=>rfl,λ_=>rfl,λ_ _=>rfl,λ_ _=>rfl⟩
theorem OQ (id sz:Nat) (es:List AV) :
 (bu id sz es AV.undef=AV.undef) /\
 (∀(b:Bool),bu id sz es (.bool b)=(.bool b)) /\
 (∀(k:IntKind) (n:Int),bu id sz es (.int k n)=(.int k n)) /\
 (∀(k:FloatKind) (n:Nat),bu id sz es (.fl k n)=(.fl k n)) /\
 (∀(k:FloatKind) (a b:Nat),bu id sz es (.cx k a b)=(.cx k a b)) /\
 (∀(l:List UInt8),bu id sz es (.str l)=(.str l)) /\
 (∀(x:Value),bu id sz es (.lit x)=(.lit x)) /\
 (bu id sz es AV.al=AV.al) /\
 (∀(sz0:Nat) (es0:List AV),bu id sz es (.ro sz0 es0)=(.ro sz0 es0)) /\
 (∀(x:AV),bu id sz es (.az x)=(.az x)) /\
 (∀(i o n:Nat),bu id sz es (.sl i o n)=ju (i==id) (.ro sz (aI es o n)) (.sl i o n)) /\
 (∀(i j f:Nat),bu id sz es (.ptr i j f)=cu (i==id) (.ptr i j f)) /\
 (∀(i f:Nat),bu id sz es (.ab i f)=cu (i==id) (.ab i f)) /\
 (∀(cs:List AV),bu id sz es (.agg cs)=.agg (cs.map (ck id sz es))) /\
 (∀(cs:List AV),bu id sz es (.ai cs)=.ai (cs.map (cX id sz es))) /\
 (∀(b:Bool) (x:AV),bu id sz es (.gd b x)=.gd b (cX id sz es x)) /\
 (∀(f:Nat) (cs:List AV),bu id sz es (.aN f cs)=.aN f (cs.map (ck id sz es))):=
 ⟨rfl,λ_=>rfl,λ_ _=>rfl,λ_ _=>rfl,λ_ _ _=>rfl,λ_=>rfl,λ_=>rfl,rfl,λ_ _=>rfl,λ_=>rfl,λ_ _ _=>tn,λ_ _ _=>fZ,λ_ _=>fZ,λ_=>rfl,λ_=>rfl,λ_ _=>rfl,λ_ _=>rfl⟩
theorem apQ (id id':Nat) :
 (cn id id' AV.undef=AV.undef) /\
 (∀(b:Bool),cn id id' (.bool b)=(.bool b)) /\
 (∀(k:IntKind) (n:Int),cn id id' (.int k n)=(.int k n)) /\
 (∀(k:FloatKind) (n:Nat),cn id id' (.fl k n)=(.fl k n)) /\
 (∀(k:FloatKind) (a b:Nat),cn id id' (.cx k a b)=(.cx k a b)) /\
 (∀(l:List UInt8),cn id id' (.str l)=(.str l)) /\
 (∀(x:Value),cn id id' (.lit x)=(.lit x)) /\
 (cn id id' AV.al=AV.al) /\
 (∀(sz0:Nat) (es0:List AV),cn id id' (.ro sz0 es0)=(.ro sz0 es0)) /\
 (∀(x:AV),cn id id' (.az x)=(.az x)) /\
 (∀(i o n:Nat),cn id id' (.sl i o n)=.sl (rn id id' i) o n) /\
 (∀(i j f:Nat),cn id id' (.ptr i j f)=.ptr (rn id id' i) j f) /\
 (∀(i f:Nat),cn id id' (.ab i f)=.ab (rn id id' i) f) /\
 (∀(cs:List AV),cn id id' (.agg cs)=AV.undef) /\
 (∀(cs:List AV),cn id id' (.ai cs)=AV.undef) /\
 (∀(b:Bool) (x:AV),cn id id' (.gd b x)=AV.undef) /\
 (∀(f:Nat) (cs:List AV),cn id id' (.aN f cs)=AV.undef):=
 ⟨rfl,λ_=>rfl,λ_ _=>rfl,λ_ _=>rfl,λ_ _ _=>rfl,λ_=>rfl,λ_=>rfl,rfl,λ_ _=>rfl,λ_=>rfl,λ_ _ _=>rfl,λ_ _ _=>rfl,λ_ _=>rfl,λ_=>rfl,λ_=>rfl,λ_ _=>rfl,λ_ _=>rfl⟩
theorem apP (id id':Nat) :
 (cP id id' AV.undef=AV.undef) /\
 (∀(b:Bool),cP id id' (.bool b)=(.bool b)) /\
 (∀(k:IntKind) (n:Int),cP id id' (.int k n)=(.int k n)) /\
 (∀(k:FloatKind) (n:Nat),cP id id' (.fl k n)=(.fl k n)) /\
 (∀(k:FloatKind) (a b:Nat),cP id id' (.cx k a b)=(.cx k a b)) /\
 (∀(l:List UInt8),cP id id' (.str l)=(.str l)) /\
 (∀(x:Value),cP id id' (.lit x)=(.lit x)) /\
 (cP id id' AV.al=AV.al) /\
 (∀(sz0:Nat) (es0:List AV),cP id id' (.ro sz0 es0)=(.ro sz0 es0)) /\
 (∀(x:AV),cP id id' (.az x)=(.az x)) /\
 (∀(i o n:Nat),cP id id' (.sl i o n)=.sl (rn id id' i) o n) /\
 (∀(i j f:Nat),cP id id' (.ptr i j f)=.ptr (rn id id' i) j f) /\
 (∀(i f:Nat),cP id id' (.ab i f)=.ab (rn id id' i) f) /\
 (∀(cs:List AV),cP id id' (.agg cs)=.agg (cs.map (cn id id'))) /\
 (∀(cs:List AV),cP id id' (.ai cs)=AV.undef) /\
 (∀(b:Bool) (x:AV),cP id id' (.gd b x)=AV.undef) /\
 (∀(f:Nat) (cs:List AV),cP id id' (.aN f cs)=.aN f (cs.map (cn id id'))):=
 ⟨rfl,λ_=>rfl,λ_ _=>rfl,λ_ _=>rfl,λ_ _ _=>rfl,λ_=>rfl,λ_=>rfl,rfl,λ_ _=>rfl,λ_=>rfl,λ_ _ _=>rfl,λ_ _ _=>rfl,λ_ _=>rfl,λ_=>rfl,λ_=>rfl,λ_ _=>rfl,λ_ _=>rfl⟩
theorem apU (id id':Nat) :
 (dL id id' AV.undef=AV.undef) /\
 (∀(b:Bool),dL id id' (.bool b)=(.bool b)) /\
 (∀(k:IntKind) (n:Int),dL id id' (.int k n)=(.int k n)) /\
 (∀(k:FloatKind) (n:Nat),dL id id' (.fl k n)=(.fl k n)) /\
 (∀(k:FloatKind) (a b:Nat),dL id id' (.cx k a b)=(.cx k a b)) /\
 (∀(l:List UInt8),dL id id' (.str l)=(.str l)) /\
 (∀(x:Value),dL id id' (.lit x)=(.lit x)) /\
 (dL id id' AV.al=AV.al) /\
 (∀(sz0:Nat) (es0:List AV),dL id id' (.ro sz0 es0)=(.ro sz0 es0)) /\
 (∀(x:AV),dL id id' (.az x)=(.az x)) /\
 (∀(i o n:Nat),dL id id' (.sl i o n)=.sl (rn id id' i) o n) /\
 (∀(i j f:Nat),dL id id' (.ptr i j f)=.ptr (rn id id' i) j f) /\
 (∀(i f:Nat),dL id id' (.ab i f)=.ab (rn id id' i) f) /\
 (∀(cs:List AV),dL id id' (.agg cs)=.agg (cs.map (cn id id'))) /\
 (∀(cs:List AV),dL id id' (.ai cs)=.ai (cs.map (cP id id'))) /\
 (∀(b:Bool) (x:AV),dL id id' (.gd b x)=.gd b (cP id id' x)) /\
 (∀(f:Nat) (cs:List AV),dL id id' (.aN f cs)=.aN f (cs.map (cn id id'))):=
 ⟨rfl,λ_=>rfl,λ_ _=>rfl,λ_ _=>rfl,λ_ _ _=>rfl,λ_=>rfl,λ_=>rfl,rfl,λ_ _=>rfl,λ_=>rfl,λ_ _ _=>rfl,λ_ _ _=>rfl,λ_ _=>rfl,λ_=>rfl,λ_=>rfl,λ_ _=>rfl,λ_ _=>rfl⟩
theorem Xg (ids keep:List Nat) :
 (cy ids keep AV.undef=AV.undef) /\
 (∀(b:Bool),cy ids keep (.bool b)=(.bool b)) /\
 (∀(k:IntKind) (n:Int),cy ids keep (.int k n)=(.int k n)) /\
 (∀(k:FloatKind) (n:Nat),cy ids keep (.fl k n)=(.fl k n)) /\
 (∀(k:FloatKind) (a b:Nat),cy ids keep (.cx k a b)=(.cx k a b)) /\
 (∀(l:List UInt8),cy ids keep (.str l)=(.str l)) /\
 (∀(x:Value),cy ids keep (.lit x)=(.lit x)) /\
 (cy ids keep AV.al=AV.al) /\
 (∀(sz0:Nat) (es0:List AV),cy ids keep (.ro sz0 es0)=(.ro sz0 es0)) /\
 (∀(x:AV),cy ids keep (.az x)=(.az x)) /\
 (∀(i o n:Nat),cy ids keep (.sl i o n)=cu (memN i ids) (.sl i o n)) /\
 (∀(i j f:Nat),cy ids keep (.ptr i j f)=cu (memN i ids) (.ptr i j f)) /\
 (∀(i f:Nat),cy ids keep (.ab i f)=ju (memN i keep) (.ab i f) (cu (memN i ids) (.ab i f))) /\
 (∀(cs:List AV),cy ids keep (.agg cs)=AV.undef) /\
 (∀(cs:List AV),cy ids keep (.ai cs)=AV.undef) /\
 (∀(b:Bool) (x:AV),cy ids keep (.gd b x)=AV.undef) /\
 (∀(f:Nat) (cs:List AV),cy ids keep (.aN f cs)=AV.undef):=
 ⟨rfl,λ_=>rfl,λ_ _=>rfl,λ_ _=>rfl,λ_ _ _=>rfl,λ_=>rfl,λ_=>rfl,rfl,λ_ _=>rfl,λ_=>rfl,λ_ _ _=>jI,λ_ _ _=>jI,λ_ _=>(by rw[<-jI,<-tp];rfl),λ_=>rfl,λ_=>rfl,λ_ _=>rfl,λ_ _=>rfl⟩
theorem Xf (ids keep:List Nat) :
 (c6 ids keep AV.undef=AV.undef) /\
 (∀(b:Bool),c6 ids keep (.bool b)=(.bool b)) /\
 (∀(k:IntKind) (n:Int),c6 ids keep (.int k n)=(.int k n)) /\
 (∀(k:FloatKind) (n:Nat),c6 ids keep (.fl k n)=(.fl k n)) /\
 (∀(k:FloatKind) (a b:Nat),c6 ids keep (.cx k a b)=(.cx k a b)) /\
 (∀(l:List UInt8),c6 ids keep (.str l)=(.str l)) /\
 (∀(x:Value),c6 ids keep (.lit x)=(.lit x)) /\
 (c6 ids keep AV.al=AV.al) /\
 (∀(sz0:Nat) (es0:List AV),c6 ids keep (.ro sz0 es0)=(.ro sz0 es0)) /\
 (∀(x:AV),c6 ids keep (.az x)=(.az x)) /\
 (∀(i o n:Nat),c6 ids keep (.sl i o n)=cu (memN i ids) (.sl i o n)) /\
 (∀(i j f:Nat),c6 ids keep (.ptr i j f)=cu (memN i ids) (.ptr i j f)) /\
 (∀(i f:Nat),c6 ids keep (.ab i f)=ju (memN i keep) (.ab i f) (cu (memN i ids) (.ab i f))) /\
 (∀(cs:List AV),c6 ids keep (.agg cs)=.agg (cs.map (cy ids keep))) /\
 (∀(cs:List AV),c6 ids keep (.ai cs)=AV.undef) /\
 (∀(b:Bool) (x:AV),c6 ids keep (.gd b x)=AV.undef) /\
 (∀(f:Nat) (cs:List AV),c6 ids keep (.aN f cs)=.aN f (cs.map (cy ids keep))):=
 ⟨rfl,λ_=>rfl,λ_ _=>rfl,λ_ _=>rfl,λ_ _ _=>rfl,λ_=>rfl,λ_=>rfl,rfl,λ_ _=>rfl,λ_=>rfl,λ_ _ _=>jI,λ_ _ _=>jI,λ_ _=>(by rw[<-jI,<-tp];rfl),λ_=>rfl,λ_=>rfl,λ_ _=>rfl,λ_ _=>rfl⟩
theorem Xd (ids keep:List Nat) :
 (kI ids keep AV.undef=AV.undef) /\
 (∀(b:Bool),kI ids keep (.bool b)=(.bool b)) /\
 (∀(k:IntKind) (n:Int),kI ids keep (.int k n)=(.int k n)) /\
 (∀(k:FloatKind) (n:Nat),kI ids keep (.fl k n)=(.fl k n)) /\
 (∀(k:FloatKind) (a b:Nat),kI ids keep (.cx k a b)=(.cx k a b)) /\
 (∀(l:List UInt8),kI ids keep (.str l)=(.str l)) /\
 (∀(x:Value),kI ids keep (.lit x)=(.lit x)) /\
 (kI ids keep AV.al=AV.al) /\
 (∀(sz0:Nat) (es0:List AV),kI ids keep (.ro sz0 es0)=(.ro sz0 es0)) /\
 (∀(x:AV),kI ids keep (.az x)=(.az x)) /\
 (∀(i o n:Nat),kI ids keep (.sl i o n)=cu (memN i ids) (.sl i o n)) /\
 (∀(i j f:Nat),kI ids keep (.ptr i j f)=cu (memN i ids) (.ptr i j f)) /\
 (∀(i f:Nat),kI ids keep (.ab i f)=ju (memN i keep) (.ab i f) (cu (memN i ids) (.ab i f))) /\
 (∀(cs:List AV),kI ids keep (.agg cs)=.agg (cs.map (cy ids keep))) /\
 (∀(cs:List AV),kI ids keep (.ai cs)=.ai (cs.map (c6 ids keep))) /\
 (∀(b:Bool) (x:AV),kI ids keep (.gd b x)=.gd b (c6 ids keep x)) /\
 (∀(f:Nat) (cs:List AV),kI ids keep (.aN f cs)=.aN f (cs.map (cy ids keep))):=
 ⟨rfl,λ_=>rfl,λ_ _=>rfl,λ_ _=>rfl,λ_ _ _=>rfl,λ_=>rfl,λ_=>rfl,rfl,λ_ _=>rfl,λ_=>rfl,λ_ _ _=>jI,λ_ _ _=>jI,λ_ _=>(by rw[<-jI,<-tp];rfl),λ_=>rfl,λ_=>rfl,λ_ _=>rfl,λ_ _=>rfl⟩
theorem IG (h:HP) :
 (borrowC h AV.undef=AV.undef) /\
 (∀(b:Bool),borrowC h (.bool b)=(.bool b)) /\
 (∀(k:IntKind) (n:Int),borrowC h (.int k n)=(.int k n)) /\
 (∀(k:FloatKind) (n:Nat),borrowC h (.fl k n)=(.fl k n)) /\
 (∀(k:FloatKind) (a b:Nat),borrowC h (.cx k a b)=(.cx k a b)) /\
 (∀(l:List UInt8),borrowC h (.str l)=(.str l)) /\
 (∀(x:Value),borrowC h (.lit x)=(.lit x)) /\
 (borrowC h AV.al=AV.al) /\
 (∀(sz0:Nat) (es0:List AV),borrowC h (.ro sz0 es0)=(.ro sz0 es0)) /\
 (∀(x:AV),borrowC h (.az x)=(.az x)) /\
 (∀(i o n:Nat),borrowC h (.sl i o n)=borSl (hget h i) o n) /\
 (∀(i j f:Nat),borrowC h (.ptr i j f)=AV.undef) /\
 (∀(i f:Nat),borrowC h (.ab i f)=AV.undef) /\
 (∀(cs:List AV),borrowC h (.agg cs)=AV.undef) /\
 (∀(cs:List AV),borrowC h (.ai cs)=AV.undef) /\
 (∀(b:Bool) (x:AV),borrowC h (.gd b x)=AV.undef) /\
 (∀(f:Nat) (cs:List AV),borrowC h (.aN f cs)=AV.undef):=
 ⟨rfl,λ_=>rfl,λ_ _=>rfl,λ_ _=>rfl,λ_ _ _=>rfl,λ_=>rfl,λ_=>rfl,rfl,λ_ _=>rfl,λ_=>rfl,λ_ _ _=>(by simp only[borrowC,borSl];split<;>simp_all),λ_ _ _=>rfl,λ_ _=>rfl,λ_=>rfl,λ_=>rfl,λ_ _=>rfl,λ_ _=>rfl⟩
theorem IH (h:HP) :
 (borrow h AV.undef=AV.undef) /\
 (∀(b:Bool),borrow h (.bool b)=(.bool b)) /\
 (∀(k:IntKind) (n:Int),borrow h (.int k n)=(.int k n)) /\
 (∀(k:FloatKind) (n:Nat),borrow h (.fl k n)=(.fl k n)) /\
 (∀(k:FloatKind) (a b:Nat),borrow h (.cx k a b)=(.cx k a b)) /\
 (∀(l:List UInt8),borrow h (.str l)=(.str l)) /\
 (∀(x:Value),borrow h (.lit x)=(.lit x)) /\
 (borrow h AV.al=AV.al) /\
 (∀(sz0:Nat) (es0:List AV),borrow h (.ro sz0 es0)=(.ro sz0 es0)) /\
 (∀(x:AV),borrow h (.az x)=(.az x)) /\
 (∀(i o n:Nat),borrow h (.sl i o n)=borSl (hget h i) o n) /\
 (∀(i j f:Nat),borrow h (.ptr i j f)=AV.undef) /\
 (∀(i f:Nat),borrow h (.ab i f)=AV.undef) /\
 (∀(cs:List AV),borrow h (.agg cs)=.agg (cs.map (borrowC h))) /\
 (∀(cs:List AV),borrow h (.ai cs)=AV.undef) /\
 (∀(b:Bool) (x:AV),borrow h (.gd b x)=AV.undef) /\
 (∀(f:Nat) (cs:List AV),borrow h (.aN f cs)=AV.undef):=
 ⟨rfl,λ_=>rfl,λ_ _=>rfl,λ_ _=>rfl,λ_ _ _=>rfl,λ_=>rfl,λ_=>rfl,rfl,λ_ _=>rfl,λ_=>rfl,λ_ _ _=>(by simp only[borrow,borrowC,borSl];split<;>simp_all),λ_ _ _=>rfl,λ_ _=>rfl,λ_=>rfl,λ_=>rfl,λ_ _=>rfl,λ_ _=>rfl⟩
theorem Hn (h0 h:HP) :
 (bcell h0 h AV.undef=AV.undef) /\
 (∀(b:Bool),bcell h0 h (.bool b)=(.bool b)) /\
 (∀(k:IntKind) (n:Int),bcell h0 h (.int k n)=(.int k n)) /\
 (∀(k:FloatKind) (n:Nat),bcell h0 h (.fl k n)=(.fl k n)) /\
 (∀(k:FloatKind) (a b:Nat),bcell h0 h (.cx k a b)=(.cx k a b)) /\
 (∀(l:List UInt8),bcell h0 h (.str l)=(.str l)) /\
 (∀(x:Value),bcell h0 h (.lit x)=(.lit x)) /\
 (bcell h0 h AV.al=AV.al) /\
 (∀(sz0:Nat) (es0:List AV),bcell h0 h (.ro sz0 es0)=(.ro sz0 es0)) /\
 (∀(x:AV),bcell h0 h (.az x)=(.az x)) /\
 (∀(i o n:Nat),bcell h0 h (.sl i o n)=keepO (hget h0 i) AV.undef (borSl (hget h i) o n)) /\
 (∀(i j f:Nat),bcell h0 h (.ptr i j f)=AV.undef) /\
 (∀(i f:Nat),bcell h0 h (.ab i f)=AV.undef) /\
 (∀(cs:List AV),bcell h0 h (.agg cs)=AV.undef) /\
 (∀(cs:List AV),bcell h0 h (.ai cs)=AV.undef) /\
 (∀(b:Bool) (x:AV),bcell h0 h (.gd b x)=AV.undef) /\
 (∀(f:Nat) (cs:List AV),bcell h0 h (.aN f cs)=AV.undef):=
 ⟨rfl,λ_=>rfl,λ_ _=>rfl,λ_ _=>rfl,λ_ _ _=>rfl,λ_=>rfl,λ_=>rfl,rfl,λ_ _=>rfl,λ_=>rfl,λ_ _ _=>(by simp only[bcell,borrowC,borSl,keepO];split<;>(try split)<;>simp_all),λ_ _ _=>rfl,λ_ _=>rfl,λ_=>rfl,λ_=>rfl,λ_ _=>rfl,λ_ _=>rfl⟩
theorem Iy (h0 h:HP) :
 (borC h0 h AV.undef=AV.undef) /\
 (∀(b:Bool),borC h0 h (.bool b)=(.bool b)) /\
 (∀(k:IntKind) (n:Int),borC h0 h (.int k n)=(.int k n)) /\
 (∀(k:FloatKind) (n:Nat),borC h0 h (.fl k n)=(.fl k n)) /\
 (∀(k:FloatKind) (a b:Nat),borC h0 h (.cx k a b)=(.cx k a b)) /\
 (∀(l:List UInt8),borC h0 h (.str l)=(.str l)) /\
 (∀(x:Value),borC h0 h (.lit x)=(.lit x)) /\
 (borC h0 h AV.al=AV.al) /\
 (∀(sz0:Nat) (es0:List AV),borC h0 h (.ro sz0 es0)=(.ro sz0 es0)) /\
 (∀(x:AV),borC h0 h (.az x)=(.az x)) /\
 (∀(i o n:Nat),borC h0 h (.sl i o n)=keepO (hget h0 i) (.sl i o n) (borSl (hget h i) o n)) /\
 (∀(i j f:Nat),borC h0 h (.ptr i j f)=keepO (hget h0 i) (.ptr i j f) AV.undef) /\
 (∀(i f:Nat),borC h0 h (.ab i f)=keepO (hget h0 i) (.ab i f) (borV h0 h (hget h i) f)) /\
 (∀(cs:List AV),borC h0 h (.agg cs)=AV.undef) /\
 (∀(cs:List AV),borC h0 h (.ai cs)=AV.undef) /\
 (∀(b:Bool) (x:AV),borC h0 h (.gd b x)=AV.undef) /\
 (∀(f:Nat) (cs:List AV),borC h0 h (.aN f cs)=AV.undef):=
 ⟨rfl,λ_=>rfl,λ_ _=>rfl,λ_ _=>rfl,λ_ _ _=>rfl,λ_=>rfl,λ_=>rfl,rfl,λ_ _=>rfl,λ_=>rfl,λ_ _ _=>(by simp only[borC,borrowC,borSl,keepO];split<;>(try split)<;>simp_all),λ_ _ _=>(by simp only[borC,keepO];rfl),λ_ _=>(by simp only[borC,borV,keepO];rfl),λ_=>rfl,λ_=>rfl,λ_ _=>rfl,λ_ _=>rfl⟩
theorem ID (h0 h:HP) :
 (bor h0 h AV.undef=AV.undef) /\
 (∀(b:Bool),bor h0 h (.bool b)=(.bool b)) /\
 (∀(k:IntKind) (n:Int),bor h0 h (.int k n)=(.int k n)) /\
 (∀(k:FloatKind) (n:Nat),bor h0 h (.fl k n)=(.fl k n)) /\
 (∀(k:FloatKind) (a b:Nat),bor h0 h (.cx k a b)=(.cx k a b)) /\
 (∀(l:List UInt8),bor h0 h (.str l)=(.str l)) /\
 (∀(x:Value),bor h0 h (.lit x)=(.lit x)) /\
 (bor h0 h AV.al=AV.al) /\
 (∀(sz0:Nat) (es0:List AV),bor h0 h (.ro sz0 es0)=(.ro sz0 es0)) /\
 (∀(x:AV),bor h0 h (.az x)=(.az x)) /\
 (∀(i o n:Nat),bor h0 h (.sl i o n)=keepO (hget h0 i) (.sl i o n) (borSl (hget h i) o n)) /\
 (∀(i j f:Nat),bor h0 h (.ptr i j f)=keepO (hget h0 i) (.ptr i j f) AV.undef) /\
 (∀(i f:Nat),bor h0 h (.ab i f)=keepO (hget h0 i) (.ab i f) (borV h0 h (hget h i) f)) /\
 (∀(cs:List AV),bor h0 h (.agg cs)=.agg (cs.map (borC h0 h))) /\
 (∀(cs:List AV),bor h0 h (.ai cs)=AV.undef) /\
 (∀(b:Bool) (x:AV),bor h0 h (.gd b x)=AV.undef) /\
 (∀(f:Nat) (cs:List AV),bor h0 h (.aN f cs)=AV.undef):=
 ⟨rfl,λ_=>rfl,λ_ _=>rfl,λ_ _=>rfl,λ_ _ _=>rfl,λ_=>rfl,λ_=>rfl,rfl,λ_ _=>rfl,λ_=>rfl,λ_ _ _=>(by simp only[bor,borC,borrowC,borSl,keepO];split<;>(try split)<;>simp_all),λ_ _ _=>(by simp only[bor,borC,keepO];rfl),λ_ _=>(by simp only[bor,borC,borV,keepO];rfl),λ_=>rfl,λ_=>rfl,λ_ _=>rfl,λ_ _=>rfl⟩
theorem abe :
 (noRefC  AV.undef=true) /\
 (∀(b:Bool),noRefC  (.bool b)=true) /\
 (∀(k:IntKind) (n:Int),noRefC  (.int k n)=true) /\
 (∀(k:FloatKind) (n:Nat),noRefC  (.fl k n)=true) /\
 (∀(k:FloatKind) (a b:Nat),noRefC  (.cx k a b)=true) /\
 (∀(l:List UInt8),noRefC  (.str l)=true) /\
 (∀(x:Value),noRefC  (.lit x)=true) /\
 (noRefC  AV.al=true) /\
 (∀(sz0:Nat) (es0:List AV),noRefC  (.ro sz0 es0)=true) /\
 (∀(x:AV),noRefC  (.az x)=true) /\
 (∀(i o n:Nat),noRefC  (.sl i o n)=false) /\
 (∀(i j f:Nat),noRefC  (.ptr i j f)=false) /\
 (∀(i f:Nat),noRefC  (.ab i f)=false) /\
 (∀(cs:List AV),noRefC  (.agg cs)=false) /\
 (∀(cs:List AV),noRefC  (.ai cs)=false) /\
 (∀(b:Bool) (x:AV),noRefC  (.gd b x)=false) /\
 (∀(f:Nat) (cs:List AV),noRefC  (.aN f cs)=false):=
 ⟨rfl,λ_=>rfl,λ_ _=>rfl,λ_ _=>rfl,λ_ _ _=>rfl,λ_=>rfl,λ_=>rfl,rfl,λ_ _=>rfl,λ_=>rfl,λ_ _ _=>rfl,λ_ _ _=>rfl,λ_ _=>rfl,λ_=>rfl,λ_=>rfl,λ_ _=>rfl,λ_ _=>rfl⟩
theorem NB :
 (flC  AV.undef=true) /\
 (∀(b:Bool),flC  (.bool b)=true) /\
 (∀(k:IntKind) (n:Int),flC  (.int k n)=true) /\
 (∀(k:FloatKind) (n:Nat),flC  (.fl k n)=true) /\
 (∀(k:FloatKind) (a b:Nat),flC  (.cx k a b)=true) /\
 (∀(l:List UInt8),flC  (.str l)=true) /\
 (∀(x:Value),flC  (.lit x)=true) /\
 (flC  AV.al=true) /\
 (∀(sz0:Nat) (es0:List AV),flC  (.ro sz0 es0)=false) /\
 (∀(x:AV),flC  (.az x)=false) /\
 (∀(i o n:Nat),flC  (.sl i o n)=false) /\
 (∀(i j f:Nat),flC  (.ptr i j f)=false) /\
 (∀(i f:Nat),flC  (.ab i f)=false) /\
 (∀(cs:List AV),flC  (.agg cs)=false) /\
 (∀(cs:List AV),flC  (.ai cs)=false) /\
 (∀(b:Bool) (x:AV),flC  (.gd b x)=false) /\
 (∀(f:Nat) (cs:List AV),flC  (.aN f cs)=false):=
 ⟨rfl,λ_=>rfl,λ_ _=>rfl,λ_ _=>rfl,λ_ _ _=>rfl,λ_=>rfl,λ_=>rfl,rfl,λ_ _=>rfl,λ_=>rfl,λ_ _ _=>rfl,λ_ _ _=>rfl,λ_ _=>rfl,λ_=>rfl,λ_=>rfl,λ_ _=>rfl,λ_ _=>rfl⟩
theorem Vu :
 (isCell  AV.undef=false) /\
 (∀(b:Bool),isCell  (.bool b)=true) /\
 (∀(k:IntKind) (n:Int),isCell  (.int k n)=true) /\
 (∀(k:FloatKind) (n:Nat),isCell  (.fl k n)=true) /\
 (∀(k:FloatKind) (a b:Nat),isCell  (.cx k a b)=true) /\
 (∀(l:List UInt8),isCell  (.str l)=true) /\
 (∀(x:Value),isCell  (.lit x)=x.oneCell') /\
 (isCell  AV.al=true) /\
 (∀(sz0:Nat) (es0:List AV),isCell  (.ro sz0 es0)=true) /\
 (∀(x:AV),isCell  (.az x)=true) /\
 (∀(i o n:Nat),isCell  (.sl i o n)=true) /\
 (∀(i j f:Nat),isCell  (.ptr i j f)=true) /\
 (∀(i f:Nat),isCell  (.ab i f)=true) /\
 (∀(cs:List AV),isCell  (.agg cs)=false) /\
 (∀(cs:List AV),isCell  (.ai cs)=false) /\
 (∀(b:Bool) (x:AV),isCell  (.gd b x)=false) /\
 (∀(f:Nat) (cs:List AV),isCell  (.aN f cs)=false):=
 ⟨rfl,λ_=>rfl,λ_ _=>rfl,λ_ _=>rfl,λ_ _ _=>rfl,λ_=>rfl,λ_=>rfl,rfl,λ_ _=>rfl,λ_=>rfl,λ_ _ _=>rfl,λ_ _ _=>rfl,λ_ _=>rfl,λ_=>rfl,λ_=>rfl,λ_ _=>rfl,λ_ _=>rfl⟩
theorem abg :
 (bO  AV.undef=true) /\
 (∀(b:Bool),bO  (.bool b)=true) /\
 (∀(k:IntKind) (n:Int),bO  (.int k n)=true) /\
 (∀(k:FloatKind) (n:Nat),bO  (.fl k n)=true) /\
 (∀(k:FloatKind) (a b:Nat),bO  (.cx k a b)=true) /\
 (∀(l:List UInt8),bO  (.str l)=true) /\
 (∀(x:Value),bO  (.lit x)=true) /\
 (bO  AV.al=true) /\
 (∀(sz0:Nat) (es0:List AV),bO  (.ro sz0 es0)=true) /\
 (∀(x:AV),bO  (.az x)=true) /\
 (∀(i o n:Nat),bO  (.sl i o n)=false) /\
 (∀(i j f:Nat),bO  (.ptr i j f)=false) /\
 (∀(i f:Nat),bO  (.ab i f)=false) /\
 (∀(cs:List AV),bO  (.agg cs)=cs.all noRefC) /\
 (∀(cs:List AV),bO  (.ai cs)=false) /\
 (∀(b:Bool) (x:AV),bO  (.gd b x)=false) /\
 (∀(f:Nat) (cs:List AV),bO  (.aN f cs)=false):=
 ⟨rfl,λ_=>rfl,λ_ _=>rfl,λ_ _=>rfl,λ_ _ _=>rfl,λ_=>rfl,λ_=>rfl,rfl,λ_ _=>rfl,λ_=>rfl,λ_ _ _=>rfl,λ_ _ _=>rfl,λ_ _=>rfl,λ_=>rfl,λ_=>rfl,λ_ _=>rfl,λ_ _=>rfl⟩
theorem abf :
 (dQ  AV.undef=true) /\
 (∀(b:Bool),dQ  (.bool b)=true) /\
 (∀(k:IntKind) (n:Int),dQ  (.int k n)=true) /\
 (∀(k:FloatKind) (n:Nat),dQ  (.fl k n)=true) /\
 (∀(k:FloatKind) (a b:Nat),dQ  (.cx k a b)=true) /\
 (∀(l:List UInt8),dQ  (.str l)=true) /\
 (∀(x:Value),dQ  (.lit x)=true) /\
 (dQ  AV.al=true) /\
 (∀(sz0:Nat) (es0:List AV),dQ  (.ro sz0 es0)=true) /\
 (∀(x:AV),dQ  (.az x)=true) /\
 (∀(i o n:Nat),dQ  (.sl i o n)=false) /\
 (∀(i j f:Nat),dQ  (.ptr i j f)=false) /\
 (∀(i f:Nat),dQ  (.ab i f)=false) /\
 (∀(cs:List AV),dQ  (.agg cs)=cs.all noRefC) /\
 (∀(cs:List AV),dQ  (.ai cs)=cs.all bO) /\
 (∀(b:Bool) (x:AV),dQ  (.gd b x)=false) /\
 (∀(f:Nat) (cs:List AV),dQ  (.aN f cs)=false):=
 ⟨rfl,λ_=>rfl,λ_ _=>rfl,λ_ _=>rfl,λ_ _ _=>rfl,λ_=>rfl,λ_=>rfl,rfl,λ_ _=>rfl,λ_=>rfl,λ_ _ _=>rfl,λ_ _ _=>rfl,λ_ _=>rfl,λ_=>rfl,λ_=>rfl,λ_ _=>rfl,λ_ _=>rfl⟩
theorem Nz :
 (flA  AV.undef=true) /\
 (∀(b:Bool),flA  (.bool b)=true) /\
 (∀(k:IntKind) (n:Int),flA  (.int k n)=true) /\
 (∀(k:FloatKind) (n:Nat),flA  (.fl k n)=true) /\
 (∀(k:FloatKind) (a b:Nat),flA  (.cx k a b)=true) /\
 (∀(l:List UInt8),flA  (.str l)=true) /\
 (∀(x:Value),flA  (.lit x)=true) /\
 (flA  AV.al=true) /\
 (∀(sz0:Nat) (es0:List AV),flA  (.ro sz0 es0)=false) /\
 (∀(x:AV),flA  (.az x)=false) /\
 (∀(i o n:Nat),flA  (.sl i o n)=false) /\
 (∀(i j f:Nat),flA  (.ptr i j f)=false) /\
 (∀(i f:Nat),flA  (.ab i f)=false) /\
 (∀(cs:List AV),flA  (.agg cs)=cs.all flC) /\
 (∀(cs:List AV),flA  (.ai cs)=false) /\
 (∀(b:Bool) (x:AV),flA  (.gd b x)=false) /\
 (∀(f:Nat) (cs:List AV),flA  (.aN f cs)=false):=
 ⟨rfl,λ_=>rfl,λ_ _=>rfl,λ_ _=>rfl,λ_ _ _=>rfl,λ_=>rfl,λ_=>rfl,rfl,λ_ _=>rfl,λ_=>rfl,λ_ _ _=>rfl,λ_ _ _=>rfl,λ_ _=>rfl,λ_=>rfl,λ_=>rfl,λ_ _=>rfl,λ_ _=>rfl⟩
theorem NH :
 (dk  AV.undef=true) /\
 (∀(b:Bool),dk  (.bool b)=true) /\
 (∀(k:IntKind) (n:Int),dk  (.int k n)=true) /\
 (∀(k:FloatKind) (n:Nat),dk  (.fl k n)=true) /\
 (∀(k:FloatKind) (a b:Nat),dk  (.cx k a b)=true) /\
 (∀(l:List UInt8),dk  (.str l)=true) /\
 (∀(x:Value),dk  (.lit x)=true) /\
 (dk  AV.al=true) /\
 (∀(sz0:Nat) (es0:List AV),dk  (.ro sz0 es0)=false) /\
 (∀(x:AV),dk  (.az x)=false) /\
 (∀(i o n:Nat),dk  (.sl i o n)=false) /\
 (∀(i j f:Nat),dk  (.ptr i j f)=false) /\
 (∀(i f:Nat),dk  (.ab i f)=false) /\
 (∀(cs:List AV),dk  (.agg cs)=cs.all flC) /\
 (∀(cs:List AV),dk  (.ai cs)=cs.all flA) /\
 (∀(b:Bool) (x:AV),dk  (.gd b x)=false) /\
 (∀(f:Nat) (cs:List AV),dk  (.aN f cs)=false):=
 ⟨rfl,λ_=>rfl,λ_ _=>rfl,λ_ _=>rfl,λ_ _ _=>rfl,λ_=>rfl,λ_=>rfl,rfl,λ_ _=>rfl,λ_=>rfl,λ_ _ _=>rfl,λ_ _ _=>rfl,λ_ _=>rfl,λ_=>rfl,λ_=>rfl,λ_ _=>rfl,λ_ _=>rfl⟩
theorem N3 (h:HP) :
 (cK h AV.undef=true) /\
 (∀(b:Bool),cK h (.bool b)=true) /\
 (∀(k:IntKind) (n:Int),cK h (.int k n)=true) /\
 (∀(k:FloatKind) (n:Nat),cK h (.fl k n)=true) /\
 (∀(k:FloatKind) (a b:Nat),cK h (.cx k a b)=true) /\
 (∀(l:List UInt8),cK h (.str l)=true) /\
 (∀(x:Value),cK h (.lit x)=true) /\
 (cK h AV.al=true) /\
 (∀(sz0:Nat) (es0:List AV),cK h (.ro sz0 es0)=false) /\
 (∀(x:AV),cK h (.az x)=false) /\
 (∀(i o n:Nat),cK h (.sl i o n)=(hget h i).isSome) /\
 (∀(i j f:Nat),cK h (.ptr i j f)=(hget h i).isSome) /\
 (∀(i f:Nat),cK h (.ab i f)=(hget h i).isSome) /\
 (∀(cs:List AV),cK h (.agg cs)=false) /\
 (∀(cs:List AV),cK h (.ai cs)=false) /\
 (∀(b:Bool) (x:AV),cK h (.gd b x)=false) /\
 (∀(f:Nat) (cs:List AV),cK h (.aN f cs)=false):=
 ⟨rfl,λ_=>rfl,λ_ _=>rfl,λ_ _=>rfl,λ_ _ _=>rfl,λ_=>rfl,λ_=>rfl,rfl,λ_ _=>rfl,λ_=>rfl,λ_ _ _=>rfl,λ_ _ _=>rfl,λ_ _=>rfl,λ_=>rfl,λ_=>rfl,λ_ _=>rfl,λ_ _=>rfl⟩
theorem N2 (h:HP) :
 (dx h AV.undef=true) /\
 (∀(b:Bool),dx h (.bool b)=true) /\
 (∀(k:IntKind) (n:Int),dx h (.int k n)=true) /\
 (∀(k:FloatKind) (n:Nat),dx h (.fl k n)=true) /\
 (∀(k:FloatKind) (a b:Nat),dx h (.cx k a b)=true) /\
 (∀(l:List UInt8),dx h (.str l)=true) /\
 (∀(x:Value),dx h (.lit x)=true) /\
 (dx h AV.al=true) /\
 (∀(sz0:Nat) (es0:List AV),dx h (.ro sz0 es0)=false) /\
 (∀(x:AV),dx h (.az x)=false) /\
 (∀(i o n:Nat),dx h (.sl i o n)=(hget h i).isSome) /\
 (∀(i j f:Nat),dx h (.ptr i j f)=(hget h i).isSome) /\
 (∀(i f:Nat),dx h (.ab i f)=(hget h i).isSome) /\
 (∀(cs:List AV),dx h (.agg cs)=cs.all (cK h)) /\
 (∀(cs:List AV),dx h (.ai cs)=false) /\
 (∀(b:Bool) (x:AV),dx h (.gd b x)=false) /\
 (∀(f:Nat) (cs:List AV),dx h (.aN f cs)=false):=
 ⟨rfl,λ_=>rfl,λ_ _=>rfl,λ_ _=>rfl,λ_ _ _=>rfl,λ_=>rfl,λ_=>rfl,rfl,λ_ _=>rfl,λ_=>rfl,λ_ _ _=>rfl,λ_ _ _=>rfl,λ_ _=>rfl,λ_=>rfl,λ_=>rfl,λ_ _=>rfl,λ_ _=>rfl⟩
theorem ND (h:HP) :
 (eh h AV.undef=true) /\
 (∀(b:Bool),eh h (.bool b)=true) /\
 (∀(k:IntKind) (n:Int),eh h (.int k n)=true) /\
 (∀(k:FloatKind) (n:Nat),eh h (.fl k n)=true) /\
 (∀(k:FloatKind) (a b:Nat),eh h (.cx k a b)=true) /\
 (∀(l:List UInt8),eh h (.str l)=true) /\
 (∀(x:Value),eh h (.lit x)=true) /\
 (eh h AV.al=true) /\
 (∀(sz0:Nat) (es0:List AV),eh h (.ro sz0 es0)=false) /\
 (∀(x:AV),eh h (.az x)=false) /\
 (∀(i o n:Nat),eh h (.sl i o n)=(hget h i).isSome) /\
 (∀(i j f:Nat),eh h (.ptr i j f)=(hget h i).isSome) /\
 (∀(i f:Nat),eh h (.ab i f)=(hget h i).isSome) /\
 (∀(cs:List AV),eh h (.agg cs)=cs.all (cK h)) /\
 (∀(cs:List AV),eh h (.ai cs)=cs.all (dx h)) /\
 (∀(b:Bool) (x:AV),eh h (.gd b x)=false) /\
 (∀(f:Nat) (cs:List AV),eh h (.aN f cs)=false):=
 ⟨rfl,λ_=>rfl,λ_ _=>rfl,λ_ _=>rfl,λ_ _ _=>rfl,λ_=>rfl,λ_=>rfl,rfl,λ_ _=>rfl,λ_=>rfl,λ_ _ _=>rfl,λ_ _ _=>rfl,λ_ _=>rfl,λ_=>rfl,λ_=>rfl,λ_ _=>rfl,λ_ _=>rfl⟩
theorem Tn (h:HP) :
 (cL h AV.undef=true) /\
 (∀(b:Bool),cL h (.bool b)=true) /\
 (∀(k:IntKind) (n:Int),cL h (.int k n)=true) /\
 (∀(k:FloatKind) (n:Nat),cL h (.fl k n)=true) /\
 (∀(k:FloatKind) (a b:Nat),cL h (.cx k a b)=true) /\
 (∀(l:List UInt8),cL h (.str l)=true) /\
 (∀(x:Value),cL h (.lit x)=true) /\
 (cL h AV.al=true) /\
 (∀(sz0:Nat) (es0:List AV),cL h (.ro sz0 es0)=true) /\
 (∀(x:AV),cL h (.az x)=true) /\
 (∀(i o n:Nat),cL h (.sl i o n)=(hget h i).isSome) /\
 (∀(i j f:Nat),cL h (.ptr i j f)=(hget h i).isSome) /\
 (∀(i f:Nat),cL h (.ab i f)=(hget h i).isSome) /\
 (∀(cs:List AV),cL h (.agg cs)=false) /\
 (∀(cs:List AV),cL h (.ai cs)=false) /\
 (∀(b:Bool) (x:AV),cL h (.gd b x)=false) /\
 (∀(f:Nat) (cs:List AV),cL h (.aN f cs)=false):=
 ⟨rfl,λ_=>rfl,λ_ _=>rfl,λ_ _=>rfl,λ_ _ _=>rfl,λ_=>rfl,λ_=>rfl,rfl,λ_ _=>rfl,λ_=>rfl,λ_ _ _=>rfl,λ_ _ _=>rfl,λ_ _=>rfl,λ_=>rfl,λ_=>rfl,λ_ _=>rfl,λ_ _=>rfl⟩
theorem Tm (h:HP) :
 (dA h AV.undef=true) /\
 (∀(b:Bool),dA h (.bool b)=true) /\
 (∀(k:IntKind) (n:Int),dA h (.int k n)=true) /\
 (∀(k:FloatKind) (n:Nat),dA h (.fl k n)=true) /\
 (∀(k:FloatKind) (a b:Nat),dA h (.cx k a b)=true) /\
 (∀(l:List UInt8),dA h (.str l)=true) /\
 (∀(x:Value),dA h (.lit x)=true) /\
 (dA h AV.al=true) /\
 (∀(sz0:Nat) (es0:List AV),dA h (.ro sz0 es0)=true) /\
 (∀(x:AV),dA h (.az x)=true) /\
 (∀(i o n:Nat),dA h (.sl i o n)=(hget h i).isSome) /\
 (∀(i j f:Nat),dA h (.ptr i j f)=(hget h i).isSome) /\
 (∀(i f:Nat),dA h (.ab i f)=(hget h i).isSome) /\
 (∀(cs:List AV),dA h (.agg cs)=cs.all (cL h)) /\
 (∀(cs:List AV),dA h (.ai cs)=false) /\
 (∀(b:Bool) (x:AV),dA h (.gd b x)=false) /\
 (∀(f:Nat) (cs:List AV),dA h (.aN f cs)=false):=
 ⟨rfl,λ_=>rfl,λ_ _=>rfl,λ_ _=>rfl,λ_ _ _=>rfl,λ_=>rfl,λ_=>rfl,rfl,λ_ _=>rfl,λ_=>rfl,λ_ _ _=>rfl,λ_ _ _=>rfl,λ_ _=>rfl,λ_=>rfl,λ_=>rfl,λ_ _=>rfl,λ_ _=>rfl⟩
theorem Tr (h:HP) :
 (dJ h AV.undef=true) /\
 (∀(b:Bool),dJ h (.bool b)=true) /\
 (∀(k:IntKind) (n:Int),dJ h (.int k n)=true) /\
 (∀(k:FloatKind) (n:Nat),dJ h (.fl k n)=true) /\
 (∀(k:FloatKind) (a b:Nat),dJ h (.cx k a b)=true) /\
 (∀(l:List UInt8),dJ h (.str l)=true) /\
 (∀(x:Value),dJ h (.lit x)=true) /\
 (dJ h AV.al=true) /\
 (∀(sz0:Nat) (es0:List AV),dJ h (.ro sz0 es0)=true) /\
 (∀(x:AV),dJ h (.az x)=true) /\
 (∀(i o n:Nat),dJ h (.sl i o n)=(hget h i).isSome) /\
 (∀(i j f:Nat),dJ h (.ptr i j f)=(hget h i).isSome) /\
 (∀(i f:Nat),dJ h (.ab i f)=(hget h i).isSome) /\
 (∀(cs:List AV),dJ h (.agg cs)=cs.all (cL h)) /\
 (∀(cs:List AV),dJ h (.ai cs)=cs.all (dA h)) /\
 (∀(b:Bool) (x:AV),dJ h (.gd b x)=false) /\
 (∀(f:Nat) (cs:List AV),dJ h (.aN f cs)=false):=
 ⟨rfl,λ_=>rfl,λ_ _=>rfl,λ_ _=>rfl,λ_ _ _=>rfl,λ_=>rfl,λ_=>rfl,rfl,λ_ _=>rfl,λ_=>rfl,λ_ _ _=>rfl,λ_ _ _=>rfl,λ_ _=>rfl,λ_=>rfl,λ_=>rfl,λ_ _=>rfl,λ_ _=>rfl⟩
theorem awl :
 (stripV  AV.undef=AV.undef) /\
 (∀(b:Bool),stripV  (.bool b)=(.bool b)) /\
 (∀(k:IntKind) (n:Int),stripV  (.int k n)=(.int k n)) /\
 (∀(k:FloatKind) (n:Nat),stripV  (.fl k n)=(.fl k n)) /\
 (∀(k:FloatKind) (a b:Nat),stripV  (.cx k a b)=(.cx k a b)) /\
 (∀(l:List UInt8),stripV  (.str l)=(.str l)) /\
 (∀(x:Value),stripV  (.lit x)=(.lit x)) /\
 (stripV  AV.al=AV.al) /\
 (∀(sz0:Nat) (es0:List AV),stripV  (.ro sz0 es0)=(.ro sz0 es0)) /\
 (∀(x:AV),stripV  (.az x)=(.az x)) /\
 (∀(i o n:Nat),stripV  (.sl i o n)=(.sl i o n)) /\
 (∀(i j f:Nat),stripV  (.ptr i j f)=(.ptr i j f)) /\
 (∀(i f:Nat),stripV  (.ab i f)=(.ab i f)) /\
 (∀(cs:List AV),stripV  (.agg cs)=(.agg cs)) /\
 (∀(cs:List AV),stripV  (.ai cs)=(.ai cs)) /\
 (∀(b:Bool) (x:AV),stripV  (.gd b x)=x) /\
 (∀(f:Nat) (cs:List AV),stripV  (.aN f cs)=.aN f cs):=
 ⟨rfl,λ_=>rfl,λ_ _=>rfl,λ_ _=>rfl,λ_ _ _=>rfl,λ_=>rfl,λ_=>rfl,rfl,λ_ _=>rfl,λ_=>rfl,λ_ _ _=>rfl,λ_ _ _=>rfl,λ_ _=>rfl,λ_=>rfl,λ_=>rfl,λ_ _=>rfl,λ_ _=>rfl⟩
theorem awk (γ:Bool) :
 (aA γ AV.undef=True) /\
 (∀(b:Bool),aA γ (.bool b)=True) /\
 (∀(k:IntKind) (n:Int),aA γ (.int k n)=True) /\
 (∀(k:FloatKind) (n:Nat),aA γ (.fl k n)=True) /\
 (∀(k:FloatKind) (a b:Nat),aA γ (.cx k a b)=True) /\
 (∀(l:List UInt8),aA γ (.str l)=True) /\
 (∀(x:Value),aA γ (.lit x)=True) /\
 (aA γ AV.al=True) /\
 (∀(sz0:Nat) (es0:List AV),aA γ (.ro sz0 es0)=True) /\
 (∀(x:AV),aA γ (.az x)=True) /\
 (∀(i o n:Nat),aA γ (.sl i o n)=True) /\
 (∀(i j f:Nat),aA γ (.ptr i j f)=True) /\
 (∀(i f:Nat),aA γ (.ab i f)=True) /\
 (∀(cs:List AV),aA γ (.agg cs)=True) /\
 (∀(cs:List AV),aA γ (.ai cs)=True) /\
 (∀(b:Bool) (x:AV),aA γ (.gd b x)=(γ=true->b=true)) /\
 (∀(f:Nat) (cs:List AV),aA γ (.aN f cs)=True):=
 ⟨rfl,λ_=>rfl,λ_ _=>rfl,λ_ _=>rfl,λ_ _ _=>rfl,λ_=>rfl,λ_=>rfl,rfl,λ_ _=>rfl,λ_=>rfl,λ_ _ _=>rfl,λ_ _ _=>rfl,λ_ _=>rfl,λ_=>rfl,λ_=>rfl,λ_ _=>rfl,λ_ _=>rfl⟩
theorem MH (st:St):(∀k,ev st (.t k)=(sget st.s k).getD .undef)/\(∀v,ev st (.c v)=v):=⟨λ_=>rfl,λ_=>rfl⟩
theorem afI (st:St) (v:AV):(∀d,put st (some d) v=⟨(d,v)::st.s,st.h⟩)/\put st none v=st:=⟨λ_=>rfl,rfl⟩
theorem O4 (w:Bool):(∀β,grd (some (.bool β)) w=some (β==w))/\(∀b β,grd (some (.gd b (.bool β))) w=some (b&&(β==w)))/\grd (some (.gd false .undef)) w=some false:=⟨λ_=>rfl,λb _=>by cases b<;>rfl,rfl⟩
theorem abb (st:St) (d:Nat) (W:aK):bZ st d W=⟨killS d st.s,bU (fA d st.h) d W⟩:=(rfl)
theorem XC (id:Nat):(∀sz es,ki id (.arr sz es)=.arr sz es)/\(∀cs,ki id (.var cs)=.var (cs.map (killC id)))/\(∀kd l,ki id (.mp kd l)=.mp kd l):=⟨λ_ _=>rfl,λ_=>rfl,λ_ _=>rfl⟩
theorem OP (id sz:Nat) (es:List AV):(∀sz' es',lh id sz es (.arr sz' es')=.arr sz' es')/\(∀cs,lh id sz es (.var cs)=.var (cs.map (ck id sz es)))/\(∀kd l,lh id sz es (.mp kd l)=.mp kd l):=⟨λ_ _=>rfl,λ_=>rfl,λ_ _=>rfl⟩
theorem apT (id id':Nat):(∀sz es,ku id id' (.arr sz es)=.arr sz es)/\(∀cs,ku id id' (.var cs)=.var (cs.map λc=>cn id id' (killC id' c)))/\(∀kd l,ku id id' (.mp kd l)=.mp kd l):=⟨λ_ _=>rfl,λ_=>rfl,λ_ _=>rfl⟩
theorem Xe (ids keep:List Nat):(∀sz es,jK ids keep (.arr sz es)=.arr sz es)/\(∀cs,jK ids keep (.var cs)=.var (cs.map (cy ids keep)))/\(∀kd l,jK ids keep (.mp kd l)=.mp kd l):=⟨λ_ _=>rfl,λ_=>rfl,λ_ _=>rfl⟩
theorem Ts (h:HP):(∀sz es,mu h (.arr sz es)=true)/\(∀cs,mu h (.var cs)=cs.all (cL h))/\(∀kd l,mu h (.mp kd l)=true):=⟨λ_ _=>rfl,λ_=>rfl,λ_ _=>rfl⟩
theorem NI (h:HP):(∀sz es,kh h (.arr sz es)=es.all flA)/\(∀cs,kh h (.var cs)=cs.all (cK h))/\(∀kd (l:List (MK×AV)),kh h (.mp kd l)=l.all λp=>flA p.2):=⟨λ_ _=>rfl,λ_=>rfl,λ_ _=>rfl⟩
theorem Tp (h:HP):jn h []=true/\(∀k W r,jn h ((k,W)::r)=(mu h W&&jn h r)):=⟨rfl,λ_ _ _=>rfl⟩
theorem NC (h:HP):flH h []=true/\(∀k W r,flH h ((k,W)::r)=(kh h W&&flH h r)):=⟨rfl,λ_ _ _=>rfl⟩
theorem aa5:dP []=[]/\(∀k W r,dP ((k,W)::r)=k::dP r):=⟨rfl,λ_ _ _=>rfl⟩
theorem abL (k:Nat):numbered k []=[]/\(∀x r,numbered k (x::r)=(k,x)::numbered (k+1) r):=⟨rfl,λ_ _=>rfl⟩
theorem apS (id id':Nat):renS id id' []=[]/\(∀k v r,renS id id' ((k,v)::r)=(k,dL id id' (kill id' v))::renS id id' r):=⟨rfl,λ_ _ _=>rfl⟩
theorem apR (id id':Nat):renH id id' []=[]/\(∀k v r,renH id id' ((k,v)::r)=(rn id id' k,ku id id' v)::renH id id' r):=⟨rfl,λ_ _ _=>rfl⟩
theorem av5 (id id':Nat) (st:St):q7 id id' st=⟨renS id id' st.s,renH id id' st.h⟩:=(rfl)
theorem avY (k id sz:Nat) (st:St):uU k id sz st=⟨(k,.sl id 0 0)::killS id st.s,bU (fA id st.h) id (.arr sz [])⟩:=(rfl)
theorem avX (p f id sz:Nat) (cs:List AV) (st:St):uV p f id sz cs st=⟨killS id st.s,bU (bU (fA id st.h) id (.arr sz [])) p (.var ((cs.map (killC id)).set f (.sl id 0 0)))⟩:=(rfl)
def lq (b:Bool) (x y:Option (List AV)):Option (List AV):=match b with
 | true=>x
 | false=>y
def uN (W:Option aK) (sz o n:Nat):Option (List AV):=match W with
 | some (.arr sz' es)=>lq (sz'==sz) (some (aI es o n)) none
 | _=>none
theorem Sp {x y:Option (List AV)}:lq true x y=x:=(rfl)
theorem Sn {x y:Option (List AV)}:lq false x y=y:=(rfl)
theorem auI {sz sz' o n:Nat} {es:List AV}:uN (some (.arr sz' es)) sz o n=lq (sz'==sz) (some (aI es o n)) none:=(rfl)
theorem td {i j:Nat} {x y:Option (List AV)}:(if i=j then x else y)=lq (i==j) x y:=by
 by_cases h:i=j
 ·subst h;rw[if_pos rfl,show(i==i)=true by simp];rfl
 ·rw[if_neg h,show(i==j)=false by simp[h]];rfl
theorem auH (sz:Nat) (st:St):slE sz st .al=some []/\(∀sz' es,slE sz st (.ro sz' es)=lq (sz'==sz) (some es) none)/\(∀id o n,slE sz st (.sl id o n)=uN (hget st.h id) sz o n):=by
 refine⟨rfl,λsz' es=>?_,λid o n=>?_⟩
 ·rw[<-td];rfl
 ·simp only[slE,uN];split
  ·rename_i e;rw[e];exact td
  ·rename_i e;split
   ·rename_i e2;exact(e _ _ e2).elim
   ·rfl
def kB (b:Bool) (l:List Nat):List Nat:=match b with
 | true=>l
 | false=>[]
def keep1 (x a:AV):List Nat:=match x,a with
 | .ab p f,.ab p' f'=>kB (p==p'&&f==f') [p]
 | _,_=>[]
theorem Xc (l:List Nat):kB true l=l/\kB false l=[]:=⟨rfl,rfl⟩
theorem Xk (x a:AV) (xs as:List AV):keepL2 (x::xs) (a::as)=keep1 x a++keepL2 xs as:=by
 cases x<;>cases a<;>simp only[keepL2,keep1,aBQ]
 rename_i p f p' f';by_cases h1:p=p'
 ·by_cases h2:f=f'
  ·subst h1;subst h2;simp[kB]
  ·rw[if_pos h1,if_neg h2,show(p==p'&&f==f')=false by simp[h2]];rfl
 ·rw[if_neg h1,show(p==p'&&f==f')=false by simp[h1]];rfl
theorem Xl (as:List AV):keepL2 [] as=[]:=by simp[keepL2]
theorem Xm (xs:List AV):keepL2 xs []=[]:=by cases xs<;>simp[keepL2]
theorem Xi:(∀(a:AV),keep1 AV.undef a=[]) /\
 (∀(b:Bool) (a:AV),keep1 (.bool b) a=[]) /\
 (∀(k:IntKind) (n:Int) (a:AV),keep1 (.int k n) a=[]) /\
 (∀(k:FloatKind) (n:Nat) (a:AV),keep1 (.fl k n) a=[]) /\
 (∀(k:FloatKind) (m n:Nat) (a:AV),keep1 (.cx k m n) a=[]) /\
 (∀(l:List UInt8) (a:AV),keep1 (.str l) a=[]) /\
 (∀(v:Value) (a:AV),keep1 (.lit v) a=[]) /\
 (∀(a:AV),keep1 AV.al a=[]) /\
 (∀(sz:Nat) (es:List AV) (a:AV),keep1 (.ro sz es) a=[]) /\
 (∀(x:AV) (a:AV),keep1 (.az x) a=[]) /\
 (∀(i o n:Nat) (a:AV),keep1 (.sl i o n) a=[]) /\
 (∀(i j f:Nat) (a:AV),keep1 (.ptr i j f) a=[]) /\
 (∀(cs:List AV) (a:AV),keep1 (.agg cs) a=[]) /\
 (∀(cs:List AV) (a:AV),keep1 (.ai cs) a=[]) /\
 (∀(b:Bool) (x:AV) (a:AV),keep1 (.gd b x) a=[]) /\
 (∀(p f:Nat),keep1 (.ab p f) AV.undef=[]) /\
 (∀(p f:Nat) (b:Bool),keep1 (.ab p f) (.bool b)=[]) /\
 (∀(p f:Nat) (k:IntKind) (n:Int),keep1 (.ab p f) (.int k n)=[]) /\
 (∀(p f:Nat) (k:FloatKind) (n:Nat),keep1 (.ab p f) (.fl k n)=[]) /\
 (∀(p f:Nat) (k:FloatKind) (m n:Nat),keep1 (.ab p f) (.cx k m n)=[]) /\
 (∀(p f:Nat) (l:List UInt8),keep1 (.ab p f) (.str l)=[]) /\
 (∀(p f:Nat) (v:Value),keep1 (.ab p f) (.lit v)=[]) /\
 (∀(p f:Nat),keep1 (.ab p f) AV.al=[]) /\
 (∀(p f:Nat) (sz:Nat) (es:List AV),keep1 (.ab p f) (.ro sz es)=[]) /\
 (∀(p f:Nat) (x:AV),keep1 (.ab p f) (.az x)=[]) /\
 (∀(p f:Nat) (i o n:Nat),keep1 (.ab p f) (.sl i o n)=[]) /\
 (∀(p f:Nat) (i j f:Nat),keep1 (.ab p f) (.ptr i j f)=[]) /\
 (∀(p f:Nat) (cs:List AV),keep1 (.ab p f) (.agg cs)=[]) /\
 (∀(p f:Nat) (cs:List AV),keep1 (.ab p f) (.ai cs)=[]) /\
 (∀(p f:Nat) (b:Bool) (x:AV),keep1 (.ab p f) (.gd b x)=[]) /\
 (∀(p f p' f':Nat),keep1 (.ab p f) (.ab p' f')=kB (p==p'&&f==f') [p]):=
 ⟨λ_=>rfl,λ_ _=>rfl,λ_ _ _=>rfl,λ_ _ _=>rfl,λ_ _ _ _=>rfl,λ_ _=>rfl,λ_ _=>rfl,λ_=>rfl,λ_ _ _=>rfl,λ_ _=>rfl,λ_ _ _ _=>rfl,λ_ _ _ _=>rfl,λ_ _=>rfl,λ_ _=>rfl,λ_ _ _=>rfl,λ_ _=>rfl,λ_ _ _=>rfl,λ_ _ _ _=>rfl,λ_ _ _ _=>rfl,λ_ _ _ _ _=>rfl,λ_ _ _=>rfl,λ_ _ _=>rfl,λ_ _=>rfl,λ_ _ _ _=>rfl,λ_ _ _=>rfl,λ_ _ _ _ _=>rfl,λ_ _ _ _ _=>rfl,λ_ _ _=>rfl,λ_ _ _=>rfl,λ_ _ _ _=>rfl,λ_ _ _ _=>rfl⟩
def mW (b:Bool) (l:List (Nat×AV)):List (Nat×AV):=match b with
 | true=>l
 | false=>[]
theorem Hb (l:List (Nat×AV)):mW true l=l/\mW false l=[]:=⟨rfl,rfl⟩
def back1 (s:List (Nat×AV)) (h:HP) (k:Nat) (a:AV):List (Nat×AV):=match a with
 | .sl i o n=>mW ((hget h i).isSome&&(sget s k).isSome) [(k,.sl i o n)]
 | _=>[]
theorem Hk (s:List (Nat×AV)) (h:HP) (k:Nat) (xs:List AE) (a:AV) (as:List AV):backS s h (.t k::xs) (a::as)=back1 s h k a++backS s h xs as:=by
 cases a<;>simp only[backS,back1,aBQ]
 rename_i i o n;cases h1:(hget h i).isSome<;>cases h2:(sget s k).isSome<;>simp[mW]
theorem Hh (s:List (Nat×AV)) (h:HP) (v:AV) (xs:List AE) (a:AV) (as:List AV):backS s h (.c v::xs) (a::as)=backS s h xs as:=by
 cases a<;>simp only[backS]
theorem Hj (s:List (Nat×AV)) (h:HP) (as:List AV):backS s h [] as=[]:=by simp[backS]
theorem Hg:(∀(s:List (Nat×AV)) (h:HP) (k0:Nat),back1 s h k0 AV.undef=[]) /\
 (∀(s:List (Nat×AV)) (h:HP) (k0:Nat) (b:Bool),back1 s h k0 (.bool b)=[]) /\
 (∀(s:List (Nat×AV)) (h:HP) (k0:Nat) (k:IntKind) (n:Int),back1 s h k0 (.int k n)=[]) /\
 (∀(s:List (Nat×AV)) (h:HP) (k0:Nat) (k:FloatKind) (n:Nat),back1 s h k0 (.fl k n)=[]) /\
 (∀(s:List (Nat×AV)) (h:HP) (k0:Nat) (k:FloatKind) (m n:Nat),back1 s h k0 (.cx k m n)=[]) /\
 (∀(s:List (Nat×AV)) (h:HP) (k0:Nat) (l:List UInt8),back1 s h k0 (.str l)=[]) /\
 (∀(s:List (Nat×AV)) (h:HP) (k0:Nat) (v:Value),back1 s h k0 (.lit v)=[]) /\
 (∀(s:List (Nat×AV)) (h:HP) (k0:Nat),back1 s h k0 AV.al=[]) /\
 (∀(s:List (Nat×AV)) (h:HP) (k0:Nat) (sz:Nat) (es:List AV),back1 s h k0 (.ro sz es)=[]) /\
 (∀(s:List (Nat×AV)) (h:HP) (k0:Nat) (x:AV),back1 s h k0 (.az x)=[]) /\
 (∀(s:List (Nat×AV)) (h:HP) (k0:Nat) (i j f:Nat),back1 s h k0 (.ptr i j f)=[]) /\
 (∀(s:List (Nat×AV)) (h:HP) (k0:Nat) (cs:List AV),back1 s h k0 (.agg cs)=[]) /\
 (∀(s:List (Nat×AV)) (h:HP) (k0:Nat) (cs:List AV),back1 s h k0 (.ai cs)=[]) /\
 (∀(s:List (Nat×AV)) (h:HP) (k0:Nat) (b:Bool) (x:AV),back1 s h k0 (.gd b x)=[]) /\
 (∀(s:List (Nat×AV)) (h:HP) (k0:Nat) (i f:Nat),back1 s h k0 (.ab i f)=[]) /\
 (∀(s:List (Nat×AV)) (h:HP) (k0:Nat) (i o n:Nat),back1 s h k0 (.sl i o n)=mW ((hget h i).isSome&&(sget s k0).isSome) [(k0,.sl i o n)]):=
 ⟨λ_ _ _=>rfl,λ_ _ _ _=>rfl,λ_ _ _ _ _=>rfl,λ_ _ _ _ _=>rfl,λ_ _ _ _ _ _=>rfl,λ_ _ _ _=>rfl,λ_ _ _ _=>rfl,λ_ _ _=>rfl,λ_ _ _ _ _=>rfl,λ_ _ _ _=>rfl,λ_ _ _ _ _ _=>rfl,λ_ _ _ _=>rfl,λ_ _ _ _=>rfl,λ_ _ _ _ _=>rfl,λ_ _ _ _ _=>rfl,λ_ _ _ _ _ _=>rfl⟩
theorem Fs (st:St) (h:HP) (args:List AE) (h':HP) (as:List AV):ia st h args h' as=⟨backS st.s h' args as++killSI (dP h++dP h') (keepL2 (args.map (ev st)) as) st.s,h'++dropH (dP h++dP h') (keepL2 (args.map (ev st)) as) st.h⟩:=(rfl)
theorem avT (sz:Nat) (st:St):(∀l,srcE sz st (.str l)=lq (sz==1) (some (l.map ub)) none)/\srcE sz st .al=slE sz st .al/\(∀sz' es,srcE sz st (.ro sz' es)=slE sz st (.ro sz' es))/\(∀id o n,srcE sz st (.sl id o n)=slE sz st (.sl id o n)):=
 ⟨λl=>by rw[<-td];rfl,rfl,λ_ _=>rfl,λ_ _ _=>rfl⟩
theorem Ji (x:AV):a6 x=(cellsOf x).all isCell:=(rfl)
theorem atH {α:Type} (l:List α) (k:Nat) (s:List α):c8 l k s=l.take k++s++l.drop (k+s.length):=(rfl)
theorem ae2:(∀x,packC [x]=x)/\packC []=.agg []/\(∀x y r,packC (x::y::r)=.agg (x::y::r)):=⟨λ_=>rfl,rfl,λ_ _ _=>rfl⟩
theorem afp (γ β:Bool) (x y:AV) :
 (∀p q,pick2 γ β x y (.bool p) (.bool q)=.ok ((γ=true->β=true->aA true x)/\(γ=true->β=false->aA true y)) (.bool (if β then p else q))) /\
 (∀p,pick2 γ β x y (.bool p) .undef=.ok (γ=true->β=true/\aA true x) (.bool p)) /\
 (∀q,pick2 γ β x y .undef (.bool q)=.ok (γ=true->β=false/\aA true y) (.bool q)):=⟨λ_ _=>rfl,λ_=>rfl,λ_=>rfl⟩
theorem afq (γ β:Bool) (x y:AV):pickR γ (.bool β) x y=pick2 γ β x y (stripV x) (stripV y):=(rfl)
theorem Xs (st:St):(∀id o n,keepR st (.sl id o n)=keepSl st id o n (hget st.h id)) /\
 (∀b,keepR st (.bool b)=.ok (bO (.bool b)=true/\a6 (.bool b)=true) (.bool b) st) /\
 (∀k n,keepR st (.int k n)=.ok (bO (.int k n)=true/\a6 (.int k n)=true) (.int k n) st) /\
 (∀k n,keepR st (.fl k n)=.ok (bO (.fl k n)=true/\a6 (.fl k n)=true) (.fl k n) st) /\
 (∀k a b,keepR st (.cx k a b)=.ok (bO (.cx k a b)=true/\a6 (.cx k a b)=true) (.cx k a b) st) /\
 (∀l,keepR st (.str l)=.ok (bO (.str l)=true/\a6 (.str l)=true) (.str l) st) /\
 (∀l,keepR st (.lit l)=.ok (bO (.lit l)=true/\a6 (.lit l)=true) (.lit l) st) /\
 (keepR st .al=.ok (bO .al=true/\a6 .al=true) .al st) /\
 (∀sz es,keepR st (.ro sz es)=.ok (bO (.ro sz es)=true/\a6 (.ro sz es)=true) (.ro sz es) st) /\
 (∀x,keepR st (.az x)=.ok (bO (.az x)=true/\a6 (.az x)=true) (.az x) st) /\
 (∀cs,keepR st (.agg cs)=.ok (bO (.agg cs)=true/\a6 (.agg cs)=true) (.agg cs) st):=
 ⟨λ_ _ _=>rfl,λ_=>rfl,λ_ _=>rfl,λ_ _=>rfl,λ_ _ _=>rfl,λ_=>rfl,λ_=>rfl,rfl,λ_ _=>rfl,λ_=>rfl,λ_=>rfl⟩
theorem FH :
 (∀(c:Prop) d v,andR c (.ok d v)=.ok (c/\d) v) /\
 (∀(c:Prop),andR c (.fail)=.fail):=
 ⟨(λ_ _ _=>rfl),(λ_=>rfl)⟩
theorem TM :
 (∀(γ:Bool) (k:IntKind) (k':IntKind) (x:Int) (y:Int),intR γ (.shl) k k' x y=.ok (γ=true->0<=y) (.int k (k.wrap (x*2^(min y.toNat k.bits))))) /\
 (∀(γ:Bool) (k:IntKind) (k':IntKind) (x:Int) (y:Int),intR γ (.shr) k k' x y=.ok (γ=true->0<=y) (.int k (x.fdiv (2^(min y.toNat k.bits))))) /\
 (∀(γ:Bool) (k:IntKind) (k':IntKind) (x:Int) (y:Int),intR γ (.add) k k' x y=.ok (k=k') (.int k (k.wrap (x+y)))) /\
 (∀(γ:Bool) (k:IntKind) (k':IntKind) (x:Int) (y:Int),intR γ (.sub) k k' x y=.ok (k=k') (.int k (k.wrap (x-y)))) /\
 (∀(γ:Bool) (k:IntKind) (k':IntKind) (x:Int) (y:Int),intR γ (.mul) k k' x y=.ok (k=k') (.int k (k.wrap (x*y)))) /\
 (∀(γ:Bool) (k:IntKind) (k':IntKind) (x:Int) (y:Int),intR γ (.quo) k k' x y=.ok (k=k'/\(γ=true->y≠0)) (.int k (k.wrap (x.tdiv y)))) /\
 (∀(γ:Bool) (k:IntKind) (k':IntKind) (x:Int) (y:Int),intR γ (.rem) k k' x y=.ok (k=k'/\(γ=true->y≠0)) (.int k (x.tmod y))) /\
 (∀(γ:Bool) (k:IntKind) (k':IntKind) (x:Int) (y:Int),intR γ (.and) k k' x y=.ok (k=k') (.int k (bits .and k x y))) /\
 (∀(γ:Bool) (k:IntKind) (k':IntKind) (x:Int) (y:Int),intR γ (.or) k k' x y=.ok (k=k') (.int k (bits .or k x y))) /\
 (∀(γ:Bool) (k:IntKind) (k':IntKind) (x:Int) (y:Int),intR γ (.xor) k k' x y=.ok (k=k') (.int k (bits .xor k x y))) /\
 (∀(γ:Bool) (k:IntKind) (k':IntKind) (x:Int) (y:Int),intR γ (.andNot) k k' x y=.ok (k=k') (.int k (bits .andNot k x y))) /\
 (∀(γ:Bool) (k:IntKind) (k':IntKind) (x:Int) (y:Int),intR γ (.eql) k k' x y=.ok (k=k') (.bool (decide (x=y)))) /\
 (∀(γ:Bool) (k:IntKind) (k':IntKind) (x:Int) (y:Int),intR γ (.neq) k k' x y=.ok (k=k') (.bool (!decide (x=y)))) /\
 (∀(γ:Bool) (k:IntKind) (k':IntKind) (x:Int) (y:Int),intR γ (.lss) k k' x y=.ok (k=k') (.bool (decide (x<y)))) /\
 (∀(γ:Bool) (k:IntKind) (k':IntKind) (x:Int) (y:Int),intR γ (.leq) k k' x y=.ok (k=k') (.bool (decide (x<=y)))) /\
 (∀(γ:Bool) (k:IntKind) (k':IntKind) (x:Int) (y:Int),intR γ (.gtr) k k' x y=.ok (k=k') (.bool (decide (y<x)))) /\
 (∀(γ:Bool) (k:IntKind) (k':IntKind) (x:Int) (y:Int),intR γ (.geq) k k' x y=.ok (k=k') (.bool (decide (y<=x)))):=
 ⟨(λ_ _ _ _ _=>rfl),(λ_ _ _ _ _=>rfl),(λ_ _ _ _ _=>rfl),(λ_ _ _ _ _=>rfl),(λ_ _ _ _ _=>rfl),(λ_ _ _ _ _=>rfl),(λ_ _ _ _ _=>rfl),(λ_ _ _ _ _=>rfl),(λ_ _ _ _ _=>rfl),(λ_ _ _ _ _=>rfl),(λ_ _ _ _ _=>rfl),(λ_ _ _ _ _=>rfl),(λ_ _ _ _ _=>rfl),(λ_ _ _ _ _=>rfl),(λ_ _ _ _ _=>rfl),(λ_ _ _ _ _=>rfl),(λ_ _ _ _ _=>rfl)⟩
theorem awi :
 (∀(γ:Bool) (x:List UInt8) (y:List UInt8),jv γ (.add) x y=.ok (γ=true->x.length+y.length<=9223372036854775807) (.str (x++y))) /\
 (∀(γ:Bool) (x:List UInt8) (y:List UInt8),jv γ (.eql) x y=.ok True (.bool (x==y))) /\
 (∀(γ:Bool) (x:List UInt8) (y:List UInt8),jv γ (.neq) x y=.ok True (.bool (!(x==y)))) /\
 (∀(γ:Bool) (x:List UInt8) (y:List UInt8),jv γ (.lss) x y=.ok True (.bool (Op.bytesLess x y))) /\
 (∀(γ:Bool) (x:List UInt8) (y:List UInt8),jv γ (.leq) x y=.ok True (.bool (Op.bytesLess x y||x==y))) /\
 (∀(γ:Bool) (x:List UInt8) (y:List UInt8),jv γ (.gtr) x y=.ok True (.bool (!(Op.bytesLess x y||x==y)))) /\
 (∀(γ:Bool) (x:List UInt8) (y:List UInt8),jv γ (.geq) x y=.ok True (.bool (!Op.bytesLess x y))):=
 ⟨(λ_ _ _=>rfl),(λ_ _ _=>rfl),(λ_ _ _=>rfl),(λ_ _ _=>rfl),(λ_ _ _=>rfl),(λ_ _ _=>rfl),(λ_ _ _=>rfl)⟩
theorem NG :
 (∀(k:FloatKind) (k':FloatKind) (x:Nat) (y:Nat),il (.add) k k' x y=.ok (k=k'/\(k.format.add x y).isSome=true) (.fl k ((k.format.add x y).getD 0))) /\
 (∀(k:FloatKind) (k':FloatKind) (x:Nat) (y:Nat),il (.sub) k k' x y=.ok (k=k'/\(k.format.sub x y).isSome=true) (.fl k ((k.format.sub x y).getD 0))) /\
 (∀(k:FloatKind) (k':FloatKind) (x:Nat) (y:Nat),il (.mul) k k' x y=.ok (k=k'/\(k.format.mul x y).isSome=true) (.fl k ((k.format.mul x y).getD 0))) /\
 (∀(k:FloatKind) (k':FloatKind) (x:Nat) (y:Nat),il (.eql) k k' x y=.ok (k=k') (.bool (k.format.order x y==some .eq))) /\
 (∀(k:FloatKind) (k':FloatKind) (x:Nat) (y:Nat),il (.neq) k k' x y=.ok (k=k') (.bool (k.format.order x y != some .eq))) /\
 (∀(k:FloatKind) (k':FloatKind) (x:Nat) (y:Nat),il (.lss) k k' x y=.ok (k=k') (.bool (k.format.order x y==some .lt))) /\
 (∀(k:FloatKind) (k':FloatKind) (x:Nat) (y:Nat),il (.gtr) k k' x y=.ok (k=k') (.bool (k.format.order x y==some .gt))) /\
 (∀(k:FloatKind) (k':FloatKind) (x:Nat) (y:Nat),il (.leq) k k' x y=.ok (k=k') (.bool (k.format.order x y==some .lt||k.format.order x y==some .eq))) /\
 (∀(k:FloatKind) (k':FloatKind) (x:Nat) (y:Nat),il (.geq) k k' x y=.ok (k=k') (.bool (k.format.order x y==some .gt||k.format.order x y==some .eq))):=
 ⟨(λ_ _ _ _=>rfl),(λ_ _ _ _=>rfl),(λ_ _ _ _=>rfl),(λ_ _ _ _=>rfl),(λ_ _ _ _=>rfl),(λ_ _ _ _=>rfl),(λ_ _ _ _=>rfl),(λ_ _ _ _=>rfl),(λ_ _ _ _=>rfl)⟩
theorem KF :
 (∀(k:FloatKind) (k':FloatKind) (a:Nat) (b:Nat) (c:Nat) (d:Nat),k9 (.add) k k' a b c d=.ok (k=k'/\(k.format.add a c).isSome=true/\(k.format.add b d).isSome=true) (.cx k ((k.format.add a c).getD 0) ((k.format.add b d).getD 0))) /\
 (∀(k:FloatKind) (k':FloatKind) (a:Nat) (b:Nat) (c:Nat) (d:Nat),k9 (.sub) k k' a b c d=.ok (k=k'/\(k.format.sub a c).isSome=true/\(k.format.sub b d).isSome=true) (.cx k ((k.format.sub a c).getD 0) ((k.format.sub b d).getD 0))) /\
 (∀(k:FloatKind) (k':FloatKind) (a:Nat) (b:Nat) (c:Nat) (d:Nat),k9 (.eql) k k' a b c d=.ok (k=k') (.bool (k.format.order a c==some .eq&&k.format.order b d==some .eq))) /\
 (∀(k:FloatKind) (k':FloatKind) (a:Nat) (b:Nat) (c:Nat) (d:Nat),k9 (.neq) k k' a b c d=.ok (k=k') (.bool (!(k.format.order a c==some .eq&&k.format.order b d==some .eq)))):=
 ⟨(λ_ _ _ _ _ _=>rfl),(λ_ _ _ _ _ _=>rfl),(λ_ _ _ _ _ _=>rfl),(λ_ _ _ _ _ _=>rfl)⟩
theorem Hw :
 (∀(γ:Bool) (op:BinOp) k a k' b,binR γ op (.int k a) (.int k' b)=intR γ op k k' a b) /\
 (∀(γ:Bool) (op:BinOp) a b,binR γ op (.str a) (.str b)=jv γ op a b) /\
 (∀(γ:Bool) (op:BinOp) k a k' b,binR γ op (.fl k a) (.fl k' b)=il op k k' a b) /\
 (∀(γ:Bool) (op:BinOp) k a b k' c d,binR γ op (.cx k a b) (.cx k' c d)=k9 op k k' a b c d):=
 ⟨(λ_ _ _ _ _ _=>rfl),(λ_ _ _ _=>rfl),(λ_ _ _ _ _ _=>rfl),(λ_ _ _ _ _ _ _ _=>rfl)⟩
theorem Hp :
 (∀(neg:Bool) a b,beqR neg (.bool a) (.bool b)=.ok True (.bool (if neg then !(a==b)else a==b))):=
 (λ_ _ _=>rfl)
theorem MD :
 (∀a b,eqOK 0 (.bool a) (.bool b)=true)/\(∀k a k' b,eqOK 1 (.int k a) (.int k' b)=(k==k'))/\(∀a b,eqOK 2 (.str a) (.str b)=true):=⟨(λ_ _=>rfl),(λ_ _ _ _=>rfl),(λ_ _=>rfl)⟩
theorem MA :
 (∀a b,eqC (.bool a) (.bool b)=(a==b))/\(∀k a k' b,eqC (.int k a) (.int k' b)=decide (a=b))/\(∀a b,eqC (.str a) (.str b)=(a==b)):=⟨(λ_ _=>rfl),(λ_ _ _ _=>rfl),(λ_ _=>rfl)⟩
theorem S7 (k:IntKind):(k==k)=true:=by cases k<;>decide
theorem MF:eqOKs [] [] []=true:=(rfl)
theorem ME (k:Nat) (ks:List Nat) (c:AV) (cs:List AV) (d:AV) (ds:List AV):eqOKs (k::ks) (c::cs) (d::ds)=(eqOK k c d&&eqOKs ks cs ds):=(rfl)
theorem MC:eqCs [] []=true:=(rfl)
theorem MB (c:AV) (cs:List AV) (d:AV) (ds:List AV):eqCs (c::cs) (d::ds)=(eqC c d&&eqCs cs ds):=(rfl)
theorem Fm (γ neg:Bool) (ks:List Nat) (cs ds:List AV):aeqR γ neg ks (.agg cs) (.agg ds)=.ok (γ=true->eqOKs ks cs ds=true) (.bool (if neg then !(eqCs cs ds)else eqCs cs ds)):=(rfl)
theorem Gk (γ:Bool) (st:St) (neg:Bool) (ks:List Nat) (x y:AE):avalR γ st (.lU neg ks x y)=andR (aA γ (ev st x)) (andR (aA γ (ev st y)) (aeqR γ neg ks (stripV (ev st x)) (stripV (ev st y)))):=(rfl)
theorem axi :
 (∀b,unR (.not) (.bool b)=.ok True (.bool (!b))) /\
 (∀k n,unR (.neg) (.int k n)=.ok True (.int k (k.wrap (0-n)))) /\
 (∀k n,unR (.xor) (.int k n)=.ok True (.int k (bits .xor k (if k.signed then -1 else k.max) n))):=
 ⟨(λ_=>rfl),(λ_ _=>rfl),(λ_ _=>rfl)⟩
theorem Ky :
 (∀(k:IntKind) u1 n,cviR k (.int u1 n)=.ok True (.int k (k.wrap n))):=
 (λ_ _ _=>rfl)
theorem JQ :
 (∀(k:FloatKind) u1 n,o8 k (.int u1 n)=.ok True (.fl k (k.nearest n))):=
 (λ_ _ _=>rfl)
theorem JF :
 (∀(γ:Bool) (k:IntKind) s b,cfiR γ k (.fl s b)=.ok (γ=true->(floatToIntVal s b k).isSome=true) (.int k ((floatToIntVal s b k).getD 0))):=
 (λ_ _ _ _=>rfl)
theorem Kt :
 (∀s,cstR (.str s)=.ok True (.str s)):=
 (λ_=>rfl)
theorem I4 :
 (∀(γ:Bool) es,btsR γ (some es)=.ok (γ=true->iH es=true) (.str (bytesOf es))) /\
 (∀(γ:Bool),btsR γ (none)=.fail):=
 ⟨(λ_ _=>rfl),(λ_=>rfl)⟩
theorem Ko :
 (∀k a k' b,cplxR (.fl k a) (.fl k' b)=.ok (k=k') (.cx k a b)):=
 (λ_ _ _ _=>rfl)
theorem apJ :
 (∀k a u1,reR (.cx k a u1)=.ok True (.fl k a)):=
 (λ_ _ _=>rfl)
theorem Tl :
 (∀k u1 b,p9 (.cx k u1 b)=.ok True (.fl k b)):=
 (λ_ _ _=>rfl)
theorem Zg :
 (∀l,lenR (true) (.str l)=.ok True (.int .i64 l.length)) /\
 (∀u1 es,lenR (false) (.ro u1 es)=.ok True (.int .i64 es.length)) /\
 (∀u1 u2 n,lenR (false) (.sl u1 u2 n)=.ok True (.int .i64 n)) /\
 (lenR (false) (.al)=.ok True (.int .i64 0)):=
 ⟨(λ_=>rfl),(λ_ _=>rfl),(λ_ _ _=>rfl),rfl⟩
theorem aaU :
 (∀(mx:Bool) k a u1 b,mmR mx (.int k a) (.int u1 b)=.ok True (.int k (if mx then(if b > a then b else a)else(if b<a then b else a)))):=
 (λ_ _ _ _ _=>rfl)
theorem MI :
 (∀(i:Nat) vs,extR (.ai vs) i=.ok (i<vs.length) (vs.getD i .undef)):=
 (λ_ _=>rfl)
theorem abd :
 (∀e,nilcR (.az e)=.ok True (.az e)) /\
 (∀id f,nilcR (.ab id f)=.ok True (.ab id f)):=
 ⟨(λ_=>rfl),(λ_ _=>rfl)⟩
theorem Sm :
 (∀(γ:Bool) (sz:Nat) (id:Nat) (off:Nat) (n:Nat) (i:Int) sz' u1,idxW γ sz (some (.arr sz' u1)) id off n i=.ok ((γ=true->0<=i/\i<n)/\0<sz/\sz'=sz) (.ptr id (off+i.toNat) 0)):=
 (λ_ _ _ _ _ _ _ _=>rfl)
theorem Sk :
 (∀(γ:Bool) (st:St) (sz:Nat) sz' es u1 i,idxR γ st sz (.ro sz' es) (.int u1 i)=.ok ((γ=true->0<=i/\i<es.length)/\0<sz/\sz'=sz) (.az (nth es i.toNat))) /\
 (∀(γ:Bool) (st:St) (sz:Nat) id off n u1 i,idxR γ st sz (.sl id off n) (.int u1 i)=idxW γ sz (hget st.h id) id off n i):=
 ⟨(λ_ _ _ _ _ _ _=>rfl),(λ_ _ _ _ _ _ _ _=>rfl)⟩
theorem aur :
 (∀(γ:Bool) l u1 i,sidxR γ (.str l) (.int u1 i)=.ok (γ=true->0<=i/\i<l.length) (.int .u8 (l.getD i.toNat 0).toNat)):=
 (λ_ _ _ _=>rfl)
theorem Y5 :
 (∀(γ:Bool) (n:Nat) (cs:List AV),ldcR γ (true) n cs=.ok (γ=true->n<=cs.length) (.agg (cs.take n))) /\
 (∀(γ:Bool) (n:Nat) (cs:List AV),ldcR γ (false) n cs=.ok (γ=true->0<cs.length) (cs.getD 0 .undef)):=
 ⟨(λ_ _ _=>rfl),(λ_ _ _=>rfl)⟩
theorem YZ :
 (∀(γ:Bool) (ag:Bool) (n:Nat) (i:Nat) (f:Nat) u1 es,qe γ ag n i f (some (.arr u1 es))=ldcR γ ag n ((cellsOf (nth es i)).drop f)):=
 (λ_ _ _ _ _ _ _=>rfl)
theorem Y4 :
 (∀(γ:Bool) (ag:Bool) (n:Nat) (f:Nat) cs,ldV γ ag n f (some (.var cs))=ldcR γ ag n (cs.drop f)):=
 (λ_ _ _ _ _=>rfl)
theorem Y3 :
 (∀(γ:Bool) (st:St) (ag:Bool) (n:Nat) e,ldR γ st ag n (.az e)=ldcR γ ag n (cellsOf e)) /\
 (∀(γ:Bool) (st:St) (ag:Bool) (n:Nat) id i f,ldR γ st ag n (.ptr id i f)=qe γ ag n i f (hget st.h id)) /\
 (∀(γ:Bool) (st:St) (ag:Bool) (n:Nat) id f,ldR γ st ag n (.ab id f)=ldV γ ag n f (hget st.h id)):=
 ⟨(λ_ _ _ _ _=>rfl),(λ_ _ _ _ _ _ _=>rfl),(λ_ _ _ _ _ _=>rfl)⟩
theorem G8 :
 (∀(γ:Bool) (n:Nat) (c:Prop) u1 l,oL γ n c (.int u1 l)=.ok (c/\(γ=true->0<=l/\l<=n)) l.toNat n):=
 (λ_ _ _ _ _=>rfl)
theorem G9 :
 (∀(γ:Bool) (n:Nat) (c:Prop) u1 h,oM γ n c (.int u1 h)=.ok (c/\(γ=true->0<=h/\h<=n)) 0 h.toNat):=
 (λ_ _ _ _ _=>rfl)
theorem Ha :
 (∀(γ:Bool) (n:Nat) (c:Prop) (c':Prop) u1 l u2 h,oO γ n c c' (.int u1 l) (.int u2 h)=.ok (c/\c'/\(γ=true->0<=l/\l<=h/\h<=n)) l.toNat h.toNat):=
 (λ_ _ _ _ _ _ _ _=>rfl)
theorem Im :
 (∀(γ:Bool) (st:St) (n:Nat),bndR γ st n (none) (none)=.ok True 0 n) /\
 (∀(γ:Bool) (st:St) (n:Nat) l,bndR γ st n (some l) (none)=oL γ n (aA γ (ev st l)) (stripV (ev st l))) /\
 (∀(γ:Bool) (st:St) (n:Nat) h,bndR γ st n (none) (some h)=oM γ n (aA γ (ev st h)) (stripV (ev st h))) /\
 (∀(γ:Bool) (st:St) (n:Nat) l h,bndR γ st n (some l) (some h)=oO γ n (aA γ (ev st l)) (aA γ (ev st h)) (stripV (ev st l)) (stripV (ev st h))):=
 ⟨(λ_ _ _=>rfl),(λ_ _ _ _=>rfl),(λ_ _ _ _=>rfl),(λ_ _ _ _ _=>rfl)⟩
theorem auP :
 (∀(s:List UInt8) c l h,slcStrR s (.ok c l h)=.ok c (.str ((s.drop l).take (h-l)))) /\
 (∀(s:List UInt8),slcStrR s (.fail)=.fail):=
 ⟨(λ_ _ _ _=>rfl),(λ_=>rfl)⟩
theorem auN :
 (∀(γ:Bool) (st:St) (lo:Option AE) (hi:Option AE) s,qV γ st lo hi (.str s)=slcStrR s (bndR γ st s.length lo hi)):=
 (λ_ _ _ _ _=>rfl)
theorem auL :
 (∀c u1 u2,nX (.ok c u1 u2)=.ok c .al) /\
 (nX (.fail)=.fail):=
 ⟨(λ_ _ _=>rfl),rfl⟩
theorem auM :
 (∀(sz:Nat) (sz':Nat) (es:List AV) c l h,nY sz sz' es (.ok c l h)=.ok (sz'=sz/\c) (.ro sz (aI es l (h-l)))) /\
 (∀(sz:Nat) (sz':Nat) (es:List AV),nY sz sz' es (.fail)=.fail):=
 ⟨(λ_ _ _ _ _ _=>rfl),(λ_ _ _=>rfl)⟩
theorem auO :
 (∀(sz:Nat) (id:Nat) (off:Nat) c l h sz' u1,slcSlR sz id off (some (.arr sz' u1)) (.ok c l h)=.ok (c/\sz'=sz) (.sl id (off+l) (h-l))):=
 (λ_ _ _ _ _ _ _ _=>rfl)
theorem auK :
 (∀(γ:Bool) (st:St) (sz:Nat) (lo:Option AE) (hi:Option AE),slcAR γ st sz lo hi (.al)=nX (bndR γ st 0 lo hi)) /\
 (∀(γ:Bool) (st:St) (sz:Nat) (lo:Option AE) (hi:Option AE) sz' es,slcAR γ st sz lo hi (.ro sz' es)=nY sz sz' es (bndR γ st es.length lo hi)) /\
 (∀(γ:Bool) (st:St) (sz:Nat) (lo:Option AE) (hi:Option AE) id off n,slcAR γ st sz lo hi (.sl id off n)=slcSlR sz id off (hget st.h id) (bndR γ st n lo hi)):=
 ⟨(λ_ _ _ _ _=>rfl),(λ_ _ _ _ _ _ _=>rfl),(λ_ _ _ _ _ _ _ _=>rfl)⟩
theorem NU :
 (∀(off:Nat) (id:Nat) (i:Nat) (f:Nat) sz u1,pM off (some (.arr sz u1)) id i f=.ok (f+off<sz) (.ptr id i (f+off))):=
 (λ_ _ _ _ _ _=>rfl)
theorem NS :
 (∀(γ:Bool) (off:Nat) (n:Nat) (cs:List AV),pL γ (true) off n cs=.ok ((γ=true->off+n<=cs.length)/\0<n) (.az (.agg ((cs.drop off).take n)))) /\
 (∀(γ:Bool) (off:Nat) (n:Nat) (cs:List AV),pL γ (false) off n cs=.ok ((γ=true->off+n<=cs.length)/\0<n/\n=1/\isCell (cs.getD off .undef)=true) (.az (cs.getD off .undef))):=
 ⟨(λ_ _ _ _=>rfl),(λ_ _ _ _=>rfl)⟩
theorem NR :
 (∀(γ:Bool) (st:St) (ag:Bool) (off:Nat) (n:Nat) e,lg γ st ag off n (.az e)=pL γ ag off n (cellsOf e)) /\
 (∀(γ:Bool) (st:St) (ag:Bool) (off:Nat) (n:Nat) id i f,lg γ st ag off n (.ptr id i f)=pM off (hget st.h id) id i f) /\
 (∀(γ:Bool) (st:St) (ag:Bool) (off:Nat) (n:Nat) id f,lg γ st ag off n (.ab id f)=.ok True (.ab id (f+off))):=
 ⟨(λ_ _ _ _ _ _=>rfl),(λ_ _ _ _ _ _ _ _=>rfl),(λ_ _ _ _ _ _ _=>rfl)⟩
theorem NT :
 (∀(γ:Bool) (ag:Bool) (off:Nat) (n:Nat) cs,fldR γ ag off n (.agg cs)=.ok ((γ=true->off+n<=cs.length)/\0<n) (if ag then .agg ((cs.drop off).take n)else cs.getD off .undef)):=
 (λ_ _ _ _ _=>rfl)
theorem Gn :
 (∀(γ:Bool) (st:St) x,avalR γ st (.ah x)=andR (aA γ (ev st x)) (.ok True (stripV (ev st x)))) /\
 (∀(γ:Bool) (st:St) c x y,avalR γ st (.pick c x y)=andR (aA γ (ev st c)) (pickR γ (stripV (ev st c)) (ev st x) (ev st y))) /\
 (∀(γ:Bool) (st:St) op x y,avalR γ st (.bin op x y)=andR (aA γ (ev st x)) (andR (aA γ (ev st y)) (binR γ op (stripV (ev st x)) (stripV (ev st y))))) /\
 (∀(γ:Bool) (st:St) neg x y,avalR γ st (.beq neg x y)=andR (aA γ (ev st x)) (andR (aA γ (ev st y)) (beqR neg (stripV (ev st x)) (stripV (ev st y))))) /\
 (∀(γ:Bool) (st:St) op x,avalR γ st (.un op x)=andR (aA γ (ev st x)) (unR op (stripV (ev st x)))) /\
 (∀(γ:Bool) (st:St) k x,avalR γ st (.bc k x)=andR (aA γ (ev st x)) (cviR k (stripV (ev st x)))) /\
 (∀(γ:Bool) (st:St) k x,avalR γ st (.o7 k x)=andR (aA γ (ev st x)) (o8 k (stripV (ev st x)))) /\
 (∀(γ:Bool) (st:St) k x,avalR γ st (.o5 k x)=andR (aA γ (ev st x)) (cfiR γ k (stripV (ev st x)))) /\
 (∀(γ:Bool) (st:St) x,avalR γ st (.pb x)=andR (aA γ (ev st x)) (cstR (stripV (ev st x)))) /\
 (∀(γ:Bool) (st:St) x,avalR γ st (.gS x)=andR (aA γ (ev st x)) (btsR γ (slE 1 st (stripV (ev st x))))) /\
 (∀(γ:Bool) (st:St) x y,avalR γ st (.o9 x y)=andR (aA γ (ev st x)) (andR (aA γ (ev st y)) (cplxR (stripV (ev st x)) (stripV (ev st y))))) /\
 (∀(γ:Bool) (st:St) x,avalR γ st (.re x)=andR (aA γ (ev st x)) (reR (stripV (ev st x)))) /\
 (∀(γ:Bool) (st:St) x,avalR γ st (.im x)=andR (aA γ (ev st x)) (p9 (stripV (ev st x)))) /\
 (∀(γ:Bool) (st:St) str x,avalR γ st (.len str x)=andR (aA γ (ev st x)) (lenR str (stripV (ev st x)))) /\
 (∀(γ:Bool) (st:St) mx x y,avalR γ st (.mm mx x y)=andR (aA γ (ev st x)) (andR (aA γ (ev st y)) (mmR mx (stripV (ev st x)) (stripV (ev st y))))) /\
 (∀(γ:Bool) (st:St) x i,avalR γ st (.ext x i)=andR (aA γ (ev st x)) (extR (stripV (ev st x)) i)) /\
 (∀(γ:Bool) (st:St) x,avalR γ st (.aq x)=andR (aA γ (ev st x)) (nilcR (stripV (ev st x)))) /\
 (∀(γ:Bool) (st:St) sz x i,avalR γ st (.aM sz x i)=andR (aA γ (ev st x)) (andR (aA γ (ev st i)) (idxR γ st sz (stripV (ev st x)) (stripV (ev st i))))) /\
 (∀(γ:Bool) (st:St) x i,avalR γ st (.b7 x i)=andR (aA γ (ev st x)) (andR (aA γ (ev st i)) (sidxR γ (stripV (ev st x)) (stripV (ev st i))))) /\
 (∀(γ:Bool) (st:St) ag n x,avalR γ st (.ld ag n x)=andR (aA γ (ev st x)) (ldR γ st ag n (stripV (ev st x)))) /\
 (∀(γ:Bool) (st:St) x lo hi,avalR γ st (.bA x lo hi)=andR (aA γ (ev st x)) (qV γ st lo hi (stripV (ev st x)))) /\
 (∀(γ:Bool) (st:St) sz x lo hi,avalR γ st (.gN sz x lo hi)=andR (aA γ (ev st x)) (slcAR γ st sz lo hi (stripV (ev st x)))) /\
 (∀(γ:Bool) (st:St) ag off n x,avalR γ st (.ak ag off n x)=andR (aA γ (ev st x)) (lg γ st ag off n (stripV (ev st x)))) /\
 (∀(γ:Bool) (st:St) ag off n x,avalR γ st (.pK ag off n x)=andR (aA γ (ev st x)) (fldR γ ag off n (stripV (ev st x)))):=
 ⟨(λ_ _ _=>rfl),(λ_ _ _ _ _=>rfl),(λ_ _ _ _ _=>rfl),(λ_ _ _ _ _=>rfl),(λ_ _ _ _=>rfl),(λ_ _ _ _=>rfl),(λ_ _ _ _=>rfl),(λ_ _ _ _=>rfl),(λ_ _ _=>rfl),(λ_ _ _=>rfl),(λ_ _ _ _=>rfl),(λ_ _ _=>rfl),(λ_ _ _=>rfl),(λ_ _ _ _=>rfl),(λ_ _ _ _ _=>rfl),(λ_ _ _ _=>rfl),(λ_ _ _=>rfl),(λ_ _ _ _ _=>rfl),(λ_ _ _ _=>rfl),(λ_ _ _ _ _=>rfl),(λ_ _ _ _ _=>rfl),(λ_ _ _ _ _ _=>rfl),(λ_ _ _ _ _ _=>rfl),(λ_ _ _ _ _ _=>rfl)⟩
theorem HD (γ:Bool) (st:St) (cs:List AV):bldR γ st [] cs=.ok True (.agg cs):=(rfl)
theorem HC (γ:Bool) (st:St) (o n:Nat) (x:AE) (r:List (Nat×Nat×AE)) (cs:List AV) :
    bldR γ st ((o,n,x)::r) cs=andR (aA γ (ev st x)) (andR (γ=true->a6 (stripV (ev st x))=true/\(cellsOf (stripV (ev st x))).length=n/\o+n<=cs.length) (bldR γ st r (cs.take o++cellsOf (stripV (ev st x))++cs.drop (o+n)))):=(rfl)
theorem Gl (γ:Bool) (st:St) (z:List AV) (ps:List (Nat×Nat×AE)):avalR γ st (.bJ z ps)=bldR γ st ps z:=(rfl)
theorem Gp (γ:Bool) (st:St) (len sz:Nat) (x i:AE):avalR γ st (.dz len sz x i)=andR (aA γ (ev st x)) (andR (aA γ (ev st i)) (idxPR γ len sz (stripV (ev st x)) (stripV (ev st i)))):=(rfl)
theorem Gq (γ:Bool) (st:St) (len:Nat) (x i:AE):avalR γ st (.mr len x i)=andR (aA γ (ev st x)) (andR (aA γ (ev st i)) (idxVR γ len (stripV (ev st x)) (stripV (ev st i)))):=(rfl)
theorem Gw (γ:Bool) (st:St) (neg:Bool) (x:AE):avalR γ st (.kG neg x)=andR (aA γ (ev st x)) (snilR γ st neg (stripV (ev st x))):=(rfl)
theorem Sg (γ:Bool) (len sz:Nat) (cs:List AV) (k:IntKind) (i:Int):idxPR γ len sz (.az (.agg cs)) (.int k i)=.ok ((γ=true->0<=i/\i<len/\i<cs.length)/\sz=1/\isCell (cs.getD i.toNat .undef)=true) (.az (cs.getD i.toNat .undef)):=(rfl)
theorem Si (γ:Bool) (len sz id f:Nat) (k:IntKind) (i:Int):idxPR γ len sz (.ab id f) (.int k i)=.ok (γ=true->0<=i/\i<len) (.ab id (f+i.toNat*sz)):=(rfl)
theorem Sl (γ:Bool) (len:Nat) (cs:List AV) (k:IntKind) (i:Int):idxVR γ len (.agg cs) (.int k i)=.ok (γ=true->0<=i/\i<len/\i<cs.length) (cs.getD i.toNat .undef):=(rfl)
theorem avF (γ neg:Bool) (n sz:Nat) (es:List AV):qY γ neg n (some (.arr sz es))=.ok (γ=true->0<n) (.bool neg):=(rfl)
theorem Gr (γ:Bool) (st:St) (neg:Bool) (x:AE):avalR γ st (.mw neg x)=andR (aA γ (ev st x)) (inilR γ neg (stripV (ev st x))):=(rfl)
theorem Gt (γ:Bool) (st:St) (t:TypeId) (x:AE):avalR γ st (.qk t x)=andR (aA γ (ev st x)) (mkiR t (stripV (ev st x))):=(rfl)
theorem Gm (γ:Bool) (st:St) (x:AE):avalR γ st (.ph x)=andR (aA γ (ev st x)) (pn (stripV (ev st x))):=(rfl)
def lv (st:St):List AE->List AV
 | []=>[]
 | x::r=>ev st x::lv st r
theorem Ag (st:St):∀l,l.map (ev st)=lv st l
 | []=>rfl
 | x::r=>by rw[aBE,Ag st r];rfl
theorem aaz (st:St):lv st []=[]/\(∀x r,lv st (x::r)=ev st x::lv st r):=⟨rfl,λ_ _=>rfl⟩
theorem ayh:lO []=true/\(∀i f r,lO (.ab i f::r)=lO r):=⟨rfl,λ_ _ _=>rfl⟩
theorem Gs (γ:Bool) (st:St) (f:Nat) (xs:List AE):avalR γ st (.qj f xs)=.ok (lO (lv st xs)=true) (.aN f (lv st xs)):=by rw[<-Ag];rfl
theorem Xh (f:Nat) (cs:List AV) (a:AV):keep1 (.aN f cs) a=[]:=(rfl)
theorem Xj (p f g:Nat) (cs:List AV):keep1 (.ab p f) (.aN g cs)=[]:=(rfl)
theorem Hf (s:List (Nat×AV)) (h:HP) (k0 f:Nat) (cs:List AV):back1 s h k0 (.aN f cs)=[]:=(rfl)
theorem KA (k:IntKind) (n:Int):pn (.int k n)=.ok True (.str (Utf8.encode n).data.toList):=(rfl)
theorem aaK (t:TypeId):mkiR t (.agg [])=.ok True (.lit (.iface t (.agg #[]))):=(rfl)
theorem aaJ (t:TypeId) (k:IntKind) (n:Int):mkiR t (.int k n)=.ok True (.lit (.iface t (.int k n))):=(rfl)
theorem aaM (id:Nat) (st:St) (sz bytes:Nat) (z:List AV) (n m:Int):mksR id st sz bytes z (.int .i64 n) (.int .i64 m)=.ok (0<=n/\m=n/\n<=16777216/\n*bytes<=16777216/\z.all noRefC=true/\z.length=sz) (.sl id 0 n.toNat) (bZ st id (.arr sz (List.replicate n.toNat (packC z)))):=(rfl)
theorem Gv (γ:Bool) (st:St) (neg:Bool) (x:AE):avalR γ st (.gX neg x)=andR (aA γ (ev st x)) (pnilR neg (stripV (ev st x))):=(rfl)
theorem afz (neg:Bool) (x:AV):pnilR neg (.az x)=.ok True (.bool neg):=(rfl)
theorem afB (neg:Bool) (i f:Nat):pnilR neg (.ab i f)=.ok True (.bool neg):=(rfl)
theorem afA (neg:Bool):pnilR neg (.lit (.pointer none))=.ok True (.bool (!neg)):=(rfl)
theorem TJ (γ neg:Bool):inilR γ neg (.lit .nilIface)=.ok True (.bool (if neg then false else true)):=by cases neg<;>simp[inilR,isNilV,isIfV]
theorem TI (γ neg:Bool) (t:TypeId) (v:Value):inilR γ neg (.lit (.iface t v))=.ok True (.bool (if neg then true else false)):=by cases neg<;>simp[inilR,isNilV,isIfV]
theorem Gu (γ:Bool) (st:St) kd ok z (x i:AE):avalR γ st (.ql kd ok z x i)=andR (aA γ (ev st x)) (andR (aA γ (ev st i)) (mlkR st kd ok z (stripV (ev st x)) (stripV (ev st i)))):=(rfl)
theorem aaI (l:List UInt8):mkOf (.str l)=some (.s l):=(rfl)
theorem aaH (k:IntKind) (n:Int):mkOf (.int k n)=some (.i k n):=(rfl)
theorem aaQ (st:St) kd ok z id i f (x:AV):mlkR st kd ok z (.ptr id i f) x=mlkK st kd ok z id (mkOf x):=(rfl)
theorem aaO (st:St) kd ok z id k:mlkK st kd ok z id (some k)=mlkW kd ok z k (hget st.h id):=(rfl)
theorem aaR kd ok z k kd' (l:List (MK×AV)):mlkW kd ok z k (some (.mp kd' l))=.ok (kd'=kd/\MK.ok kd k) (nD ok z (mfind l k)):=(rfl)
theorem aaX (z:AV) (o:Option AV):nD true z o=.ai [o.getD z,.bool o.isSome]:=(rfl)
theorem aaW (z:AV) (o:Option AV):nD false z o=o.getD z:=(rfl)
theorem EB (b:List UInt8):MK.ok none (.s b)=True:=(rfl)
theorem EA (k k':IntKind) (n:Int):MK.ok (some k) (.i k' n)=(k'=k):=(rfl)
theorem aaZ (st:St) kd id i f (k v:AV):mupR st kd (.ptr id i f) k v=mupK st id kd (mkOf k) v:=(rfl)
theorem aaY (st:St) id kd k (v:AV):mupK st id kd (some k) v=mupW st id kd k v (hget st.h id):=(rfl)
theorem aa0 (st:St) id kd k (v:AV) kd' (l:List (MK×AV)):mupW st id kd k v (some (.mp kd' l))=.ok (kd'=kd/\MK.ok kd k/\bO v=true) .undef ⟨st.s,bU st.h id (.mp kd (mput l k v))⟩:=(rfl)
theorem Mc (id:Nat) (st:St) kd:effR id st (.mB kd)=.ok True (.ptr id 0 0) (bZ st id (.mp kd [])):=(rfl)
theorem Md (id:Nat) (st:St) kd x k v:effR id st (.nE kd x k v)=mupR st kd (ev st x) (ev st k) (ev st v):=(rfl)
theorem avE :
 (∀(γ:Bool) (st:St) (neg:Bool),snilR γ st neg (.al)=.ok True (.bool (!neg))) /\
 (∀(γ:Bool) (st:St) (neg:Bool) id o n,snilR γ st neg (.sl id o n)=qY γ neg n (hget st.h id)) /\
 (∀(γ:Bool) (st:St) (neg:Bool) sz es,snilR γ st neg (.ro sz es)=.ok (γ=true->0<es.length/\0<sz) (.bool neg)):=
 ⟨(λ_ _ _=>rfl),(λ_ _ _ _ _ _=>rfl),(λ_ _ _ _ _=>rfl)⟩
theorem Xt :
 (∀(st:St) (id:Nat) (o:Nat) (n:Nat) sz es,keepSl st id o n (some (.arr sz es))=.ok True (.ro sz (aI es o n)) (freeze st id)):=
 (λ_ _ _ _ _ _=>rfl)
theorem aqH :
 (∀(c:Prop) (v:AV) d vs st,rl2 c v (.ok d vs st)=.ok (c/\d) (v::vs) st) /\
 (∀(c:Prop) (v:AV),rl2 c v (.fail)=.fail):=
 ⟨(λ_ _ _ _ _=>rfl),(λ_ _=>rfl)⟩
theorem aqG :
 (∀(r:List AE) c v st1,uA r (.ok c v st1)=rl2 c v (keepLR r st1)) /\
 (∀(r:List AE),uA r (.fail)=.fail):=
 ⟨(λ_ _ _ _=>rfl),(λ_=>rfl)⟩
theorem I2 :
 (∀(id:Nat) (sz:Nat) c es st',na id sz (.ok c es st')=.ok (c/\es.all (λe=>(cellsOf e).length==sz)=true) (.sl id 0 es.length) (bZ st' id (.arr sz es))) /\
 (∀(id:Nat) (sz:Nat),na id sz (.fail)=.fail):=
 ⟨(λ_ _ _ _ _=>rfl),(λ_ _=>rfl)⟩
theorem F7 :
 (∀(st:St) (sz:Nat) (bytes:Nat) (id:Nat) (off:Nat) (n:Nat) (xs:List AV) sz' es,oI st sz bytes id off n xs (some (.arr sz' es))=.ok (xs.all a6=true/\sz'=sz/\(aI es off n).all a6=true/\(n+xs.length)*bytes<=140737488355328/\n+xs.length<=9223372036854775807) (.sl id 0 (n+xs.length)) (bZ st id (.arr sz (aI es off n++xs)))):=
 (λ_ _ _ _ _ _ _ _ _=>rfl)
theorem F6 :
 (∀(d:Nat) (st:St) (sz:Nat) (bytes:Nat) xs,appR d st sz bytes (.al) (some xs)=.ok (xs.all a6=true/\xs.length*bytes<=140737488355328/\xs.length<=9223372036854775807) (.sl d 0 xs.length) (bZ st d (.arr sz xs))) /\
 (∀(d:Nat) (st:St) (sz:Nat) (bytes:Nat) xs id off n,appR d st sz bytes (.sl id off n) (some xs)=oI st sz bytes id off n xs (hget st.h id)):=
 ⟨(λ_ _ _ _ _=>rfl),(λ_ _ _ _ _ _ _ _=>rfl)⟩
theorem av7 :
 (∀(st:St) (n:Nat) (id:Nat) (i:Nat) (f:Nat) (v:AV) sz es,q8 st n id i f v (some (.arr sz es))=.ok ((cellsOf v).length=n/\0<n/\f+n<=sz) .undef ⟨st.s,bU st.h id (.arr sz (es.set i (jb (nth es i) f v)))⟩):=
 (λ_ _ _ _ _ _ _ _=>rfl)
theorem avZ :
 (∀(n:Nat) (id:Nat) (i:Nat) (f:Nat) (c:Prop) (v:AV) (st:St) d u st',ob n id i f c v st (.ok d u st')=.ok (c/\d) u st') /\
 (∀(n:Nat) (id:Nat) (i:Nat) (f:Nat) (c:Prop) (v:AV) (st:St),ob n id i f c v st (.fail)=.fail):=
 ⟨(λ_ _ _ _ _ _ _ _ _ _=>rfl),(λ_ _ _ _ _ _ _=>rfl)⟩
theorem av2 :
 (∀(n:Nat) (id:Nat) (i:Nat) (f:Nat) c v st,oa n id i f (.ok c v st)=ob n id i f c v st (q8 st n id i f v (hget st.h id))) /\
 (∀(n:Nat) (id:Nat) (i:Nat) (f:Nat),oa n id i f (.fail)=.fail):=
 ⟨(λ_ _ _ _ _ _ _=>rfl),(λ_ _ _ _=>rfl)⟩
theorem av6 :
 (∀(st:St) (n:Nat) (id:Nat) (f:Nat) (v:AV) cs,stV st n id f v (some (.var cs))=.ok (a6 v=true/\(cellsOf v).length=n/\f+n<=cs.length) .undef ⟨st.s,bU st.h id (.var (c8 cs f (cellsOf v)))⟩):=
 (λ_ _ _ _ _ _=>rfl)
theorem av4 :
 (∀(st:St) (n:Nat) (v:AV) id i f,stR st n (.ptr id i f) v=oa n id i f (keepR st v)) /\
 (∀(st:St) (n:Nat) (v:AV) id f,stR st n (.ab id f) v=stV st n id f v (hget st.h id)):=
 ⟨(λ_ _ _ _ _ _=>rfl),(λ_ _ _ _ _=>rfl)⟩
theorem awc :
 (∀(st:St) (id:Nat) l,stbR st id (.str l)=.ok True (.sl id 0 l.length) (bZ st id (.arr 1 (l.map ub)))):=
 (λ_ _ _=>rfl)
theorem L9 :
 (∀(id:Nat) (st:St) z,effR id st (.alloc z)=.ok (z.all noRefC=true) (.ab id 0) (bZ st id (.var (z.map (killC id))))) /\
 (∀(id:Nat) (st:St) n x,effR id st (.box n x)=.ok (a6 (ev st x)=true/\(cellsOf (ev st x)).length=n) (.ab id 0) (bZ st id (.var ((cellsOf (ev st x)).map (killC id))))) /\
 (∀(id:Nat) (st:St) sz xs,effR id st (.ba sz xs)=na id sz (keepLR xs st)) /\
 (∀(id:Nat) (st:St) sz bytes s x,effR id st (.app sz bytes s x)=appR id st sz bytes (ev st s) (srcE sz st (ev st x))) /\
 (∀(id:Nat) (st:St) n x v,effR id st (.st n x v)=stR st n (ev st x) (ev st v)) /\
 (∀(id:Nat) (st:St) sz b z l c,effR id st (.kl sz b z l c)=mksR id st sz b z (ev st l) (ev st c)) /\
 (∀(id:Nat) (st:St) x,effR id st (.lI x)=stbR st id (ev st x)):=
 ⟨(λ_ _ _=>rfl),(λ_ _ _ _=>rfl),(λ_ _ _ _=>rfl),(λ_ _ _ _ _ _=>rfl),(λ_ _ _ _ _=>rfl),(λ_ _ _ _ _ _ _=>rfl),(λ_ _ _=>rfl)⟩
attribute [go_sem] Gv afz afB afA Gu aaI aaH aaQ aaO aaR aaX aaW EB EA aaZ aaY aa0 Mc Md aBy aBq aCj aDa aaz ayh Gs Xh Xj Hf MH afI O4 abb XC OP apT Xe Ts NI Tp NC aa5 abL apS apR av5 avY avX Sp Sn auI Xc Xk Xl Xm Xi Hb Hk Hh Hj Hg Fs avT auH Ji atH ae2 afp afq Xs FH TM awi NG KF Hw Hp MD S7 MA MF ME MC MB Fm Gk axi Ky JQ JF Kt I4 Ko apJ Tl Zg aaU MI abd Sm Sk aur Y5 YZ Y4 Y3 G8 G9 Ha Im auP auN auL auM auO auK NU NS NR NT Gn HD HC Gl Gp Gq Gw Si Sg Sl avF avE Gr TJ TI Gt aaK aaJ aaM Gm KA Xt aqH aqG I2 F7 F6 av7 avZ av2 av6 av4 awc L9 Kw Kv atK atJ IB Xq Xp IC Xv Xu XD OI OH OQ apQ apP apU Xg Xf Xd IG IH Hn Iy ID abe NB Vu abg abf Nz NH N3 N2 ND Tn Tm Tr awl awk
end Go.Proofs.YtoalcafkffmiiaaGreatDoor.Eng
