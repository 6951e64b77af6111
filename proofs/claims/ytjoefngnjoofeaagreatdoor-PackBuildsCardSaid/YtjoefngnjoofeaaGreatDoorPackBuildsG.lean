/- The proof, part 7 of 25. -/
import Derived.Test.YtjoefngnjoofeaaGreatDoorPackBuildsF
set_option linter.all false
namespace Go.Proofs.YtjoefngnjoofeaaGreatDoor.Eng
def cu (b:Bool) (x:AV):AV:=match b with
 | true=>.undef
 | false=>x
def jS (b:Bool) (x y:AV):AV:=match b with
 | true=>x
 | false=>y
theorem fV {i j:Nat} {x:AV}:(if i=j then AV.undef else x)=cu (i==j) x:=by
 by_cases h:i=j
 ·subst h;rw[if_pos rfl,show(i==i)=true by simp];rfl
 ·rw[if_neg h,show(i==j)=false by simp[h]];rfl
theorem tc {i j:Nat} {x y:AV}:(if i=j then x else y)=jS (i==j) x y:=by
 by_cases h:i=j
 ·subst h;rw[if_pos rfl,show(i==i)=true by simp];rfl
 ·rw[if_neg h,show(i==j)=false by simp[h]];rfl
theorem mg {b:Bool} {x:AV}:(if b=true then AV.undef else x)=cu b x:=by cases b<;>rfl
theorem zh {b:Bool} {x y:AV}:(if b=true then x else y)=jS b x y:=by cases b<;>rfl
theorem JO {x:AV}:cu true x=.undef:=(rfl)
theorem JN {x:AV}:cu false x=x:=(rfl)
theorem axd {x y:AV}:jS true x y=x:=(rfl)
theorem axc {x y:AV}:jS false x y=y:=(rfl)
def borSl (W:Option aP) (o n:Nat):AV:=match W with
 | some (.arr sz es)=>.ro sz (aM es o n)
 | _=>.undef
theorem Ia {sz o n:Nat} {es:List AV}:borSl (some (.arr sz es)) o n=.ro sz (aM es o n):=(rfl)
def keepO (W:Option aP) (x y:AV):AV:=match W with
 | some _=>x
 | none=>y
theorem YE {W:aP} {x y:AV}:keepO (some W) x y=x:=(rfl)
theorem YD {x y:AV}:keepO none x y=y:=(rfl)
def borV (h0 h:HP) (W:Option aP) (f:Nat):AV:=match W,f with
 | some (.var cs),0=>.az (packC (cs.map (bcell h0 h)))
 | _,_=>.undef
theorem Ib {h0 h:HP} {cs:List AV}:borV h0 h (some (.var cs)) 0=.az (packC (cs.map (bcell h0 h))):=(rfl)
theorem YJ (id:Nat) :
 (killC id AV.undef=AV.undef) ∧
 (∀(b:Bool),killC id (.bool b)=(.bool b)) ∧
 (∀(k:IntKind) (n:Int),killC id (.int k n)=(.int k n)) ∧
 (∀(k:FloatKind) (n:Nat),killC id (.fl k n)=(.fl k n)) ∧
 (∀(k:FloatKind) (a b:Nat),killC id (.cx k a b)=(.cx k a b)) ∧
 (∀(l:List UInt8),killC id (.str l)=(.str l)) ∧
 (∀(x:Value),killC id (.lit x)=(.lit x)) ∧
 (killC id AV.al=AV.al) ∧
 (∀(sz0:Nat) (es0:List AV),killC id (.ro sz0 es0)=(.ro sz0 es0)) ∧
 (∀(x:AV),killC id (.az x)=(.az x)) ∧
 (∀(i o n:Nat),killC id (.sl i o n)=cu (i==id) (.sl i o n)) ∧
 (∀(i j f:Nat),killC id (.ptr i j f)=cu (i==id) (.ptr i j f)) ∧
 (∀(i f:Nat),killC id (.ab i f)=cu (i==id) (.ab i f)) ∧
 (∀(cs:List AV),killC id (.agg cs)=AV.undef) ∧
 (∀(cs:List AV),killC id (.ak cs)=AV.undef) ∧
 (∀(b:Bool) (x:AV),killC id (.gd b x)=AV.undef) ∧
 (∀(f:Nat) (cs:List AV),killC id (.aR f cs)=AV.undef):=
 ⟨rfl,fun _=>rfl,fun _ _=>rfl,fun _ _=>rfl,fun _ _ _=>rfl,fun _=>rfl,fun _=>rfl,rfl,fun _ _=>rfl,fun _=>rfl,fun _ _ _=>fV,fun _ _ _=>fV,fun _ _=>fV,fun _=>rfl,fun _=>rfl,fun _ _=>rfl,fun _ _=>rfl⟩
theorem YI (id:Nat) :
 (killA id AV.undef=AV.undef) ∧
 (∀(b:Bool),killA id (.bool b)=(.bool b)) ∧
 (∀(k:IntKind) (n:Int),killA id (.int k n)=(.int k n)) ∧
 (∀(k:FloatKind) (n:Nat),killA id (.fl k n)=(.fl k n)) ∧
 (∀(k:FloatKind) (a b:Nat),killA id (.cx k a b)=(.cx k a b)) ∧
 (∀(l:List UInt8),killA id (.str l)=(.str l)) ∧
 (∀(x:Value),killA id (.lit x)=(.lit x)) ∧
 (killA id AV.al=AV.al) ∧
 (∀(sz0:Nat) (es0:List AV),killA id (.ro sz0 es0)=(.ro sz0 es0)) ∧
 (∀(x:AV),killA id (.az x)=(.az x)) ∧
 (∀(i o n:Nat),killA id (.sl i o n)=cu (i==id) (.sl i o n)) ∧
 (∀(i j f:Nat),killA id (.ptr i j f)=cu (i==id) (.ptr i j f)) ∧
 (∀(i f:Nat),killA id (.ab i f)=cu (i==id) (.ab i f)) ∧
 (∀(cs:List AV),killA id (.agg cs)=.agg (cs.map (killC id))) ∧
 (∀(cs:List AV),killA id (.ak cs)=AV.undef) ∧
 (∀(b:Bool) (x:AV),killA id (.gd b x)=AV.undef) ∧
 (∀(f:Nat) (cs:List AV),killA id (.aR f cs)=.aR f (cs.map (killC id))):=
 ⟨rfl,fun _=>rfl,fun _ _=>rfl,fun _ _=>rfl,fun _ _ _=>rfl,fun _=>rfl,fun _=>rfl,rfl,fun _ _=>rfl,fun _=>rfl,fun _ _ _=>fV,fun _ _ _=>fV,fun _ _=>fV,fun _=>rfl,fun _=>rfl,fun _ _=>rfl,fun _ _=>rfl⟩
theorem YR (id:Nat) :
 (kill id AV.undef=AV.undef) ∧
 (∀(b:Bool),kill id (.bool b)=(.bool b)) ∧
 (∀(k:IntKind) (n:Int),kill id (.int k n)=(.int k n)) ∧
 (∀(k:FloatKind) (n:Nat),kill id (.fl k n)=(.fl k n)) ∧
 (∀(k:FloatKind) (a b:Nat),kill id (.cx k a b)=(.cx k a b)) ∧
 (∀(l:List UInt8),kill id (.str l)=(.str l)) ∧
 (∀(x:Value),kill id (.lit x)=(.lit x)) ∧
 (kill id AV.al=AV.al) ∧
 (∀(sz0:Nat) (es0:List AV),kill id (.ro sz0 es0)=(.ro sz0 es0)) ∧
 (∀(x:AV),kill id (.az x)=(.az x)) ∧
 (∀(i o n:Nat),kill id (.sl i o n)=cu (i==id) (.sl i o n)) ∧
 (∀(i j f:Nat),kill id (.ptr i j f)=cu (i==id) (.ptr i j f)) ∧
 (∀(i f:Nat),kill id (.ab i f)=cu (i==id) (.ab i f)) ∧
 (∀(cs:List AV),kill id (.agg cs)=.agg (cs.map (killC id))) ∧
 (∀(cs:List AV),kill id (.ak cs)=.ak (cs.map (killA id))) ∧
 (∀(b:Bool) (x:AV),kill id (.gd b x)=.gd b (killA id x)) ∧
 (∀(f:Nat) (cs:List AV),kill id (.aR f cs)=.aR f (cs.map (killC id))):=
 ⟨rfl,fun _=>rfl,fun _ _=>rfl,fun _ _=>rfl,fun _ _ _=>rfl,fun _=>rfl,fun _=>rfl,rfl,fun _ _=>rfl,fun _=>rfl,fun _ _ _=>fV,fun _ _ _=>fV,fun _ _=>fV,fun _=>rfl,fun _=>rfl,fun _ _=>rfl,fun _ _=>rfl⟩
theorem Oh (id sz:Nat) (es:List AV) :
 (cD id sz es AV.undef=AV.undef) ∧
 (∀(b:Bool),cD id sz es (.bool b)=(.bool b)) ∧
 (∀(k:IntKind) (n:Int),cD id sz es (.int k n)=(.int k n)) ∧
 (∀(k:FloatKind) (n:Nat),cD id sz es (.fl k n)=(.fl k n)) ∧
 (∀(k:FloatKind) (a b:Nat),cD id sz es (.cx k a b)=(.cx k a b)) ∧
 (∀(l:List UInt8),cD id sz es (.str l)=(.str l)) ∧
 (∀(x:Value),cD id sz es (.lit x)=(.lit x)) ∧
 (cD id sz es AV.al=AV.al) ∧
 (∀(sz0:Nat) (es0:List AV),cD id sz es (.ro sz0 es0)=(.ro sz0 es0)) ∧
 (∀(x:AV),cD id sz es (.az x)=(.az x)) ∧
 (∀(i o n:Nat),cD id sz es (.sl i o n)=jS (i==id) (.ro sz (aM es o n)) (.sl i o n)) ∧
 (∀(i j f:Nat),cD id sz es (.ptr i j f)=cu (i==id) (.ptr i j f)) ∧
 (∀(i f:Nat),cD id sz es (.ab i f)=cu (i==id) (.ab i f)) ∧
 (∀(cs:List AV),cD id sz es (.agg cs)=AV.undef) ∧
 (∀(cs:List AV),cD id sz es (.ak cs)=AV.undef) ∧
 (∀(b:Bool) (x:AV),cD id sz es (.gd b x)=AV.undef) ∧
 (∀(f:Nat) (cs:List AV),cD id sz es (.aR f cs)=AV.undef):=
 ⟨rfl,fun _=>rfl,fun _ _=>rfl,fun _ _=>rfl,fun _ _ _=>rfl,fun _=>rfl,fun _=>rfl,rfl,fun _ _=>rfl,fun _=>rfl,fun _ _ _=>tc,fun _ _ _=>fV,fun _ _=>fV,fun _=>rfl,fun _=>rfl,fun _ _=>rfl,fun _ _=>rfl⟩
theorem Og (id sz:Nat) (es:List AV) :
 (dh id sz es AV.undef=AV.undef) ∧
 (∀(b:Bool),dh id sz es (.bool b)=(.bool b)) ∧
 (∀(k:IntKind) (n:Int),dh id sz es (.int k n)=(.int k n)) ∧
 (∀(k:FloatKind) (n:Nat),dh id sz es (.fl k n)=(.fl k n)) ∧
 (∀(k:FloatKind) (a b:Nat),dh id sz es (.cx k a b)=(.cx k a b)) ∧
 (∀(l:List UInt8),dh id sz es (.str l)=(.str l)) ∧
 (∀(x:Value),dh id sz es (.lit x)=(.lit x)) ∧
 (dh id sz es AV.al=AV.al) ∧
 (∀(sz0:Nat) (es0:List AV),dh id sz es (.ro sz0 es0)=(.ro sz0 es0)) ∧
 (∀(x:AV),dh id sz es (.az x)=(.az x)) ∧
 (∀(i o n:Nat),dh id sz es (.sl i o n)=jS (i==id) (.ro sz (aM es o n)) (.sl i o n)) ∧
 (∀(i j f:Nat),dh id sz es (.ptr i j f)=cu (i==id) (.ptr i j f)) ∧
 (∀(i f:Nat),dh id sz es (.ab i f)=cu (i==id) (.ab i f)) ∧
 (∀(cs:List AV),dh id sz es (.agg cs)=.agg (cs.map (cD id sz es))) ∧
 (∀(cs:List AV),dh id sz es (.ak cs)=AV.undef) ∧
 (∀(b:Bool) (x:AV),dh id sz es (.gd b x)=AV.undef) ∧
 (∀(f:Nat) (cs:List AV),dh id sz es (.aR f cs)=.aR f (cs.map (cD id sz es))):=
 ⟨rfl,fun _=>rfl,fun _ _=>rfl,fun _ _=>rfl,fun _ _ _=>rfl,fun _=>rfl,fun _=>rfl,rfl,fun _ _=>rfl,fun _=>rfl,fun _ _ _=>tc,fun _ _ _=>fV,fun _ _=>fV,fun _=>rfl,fun _=>rfl,fun _ _=>rfl,fun _ _=>rfl⟩
theorem Oq (id sz:Nat) (es:List AV) :
 (bF id sz es AV.undef=AV.undef) ∧
 (∀(b:Bool),bF id sz es (.bool b)=(.bool b)) ∧
 (∀(k:IntKind) (n:Int),bF id sz es (.int k n)=(.int k n)) ∧
 (∀(k:FloatKind) (n:Nat),bF id sz es (.fl k n)=(.fl k n)) ∧
 (∀(k:FloatKind) (a b:Nat),bF id sz es (.cx k a b)=(.cx k a b)) ∧
 (∀(l:List UInt8),bF id sz es (.str l)=(.str l)) ∧
 (∀(x:Value),bF id sz es (.lit x)=(.lit x)) ∧
 (bF id sz es AV.al=AV.al) ∧
 (∀(sz0:Nat) (es0:List AV),bF id sz es (.ro sz0 es0)=(.ro sz0 es0)) ∧
 (∀(x:AV),bF id sz es (.az x)=(.az x)) ∧
 (∀(i o n:Nat),bF id sz es (.sl i o n)=jS (i==id) (.ro sz (aM es o n)) (.sl i o n)) ∧
 (∀(i j f:Nat),bF id sz es (.ptr i j f)=cu (i==id) (.ptr i j f)) ∧
 (∀(i f:Nat),bF id sz es (.ab i f)=cu (i==id) (.ab i f)) ∧
 (∀(cs:List AV),bF id sz es (.agg cs)=.agg (cs.map (cD id sz es))) ∧
 (∀(cs:List AV),bF id sz es (.ak cs)=.ak (cs.map (dh id sz es))) ∧
 (∀(b:Bool) (x:AV),bF id sz es (.gd b x)=.gd b (dh id sz es x)) ∧
 (∀(f:Nat) (cs:List AV),bF id sz es (.aR f cs)=.aR f (cs.map (cD id sz es))):=
 ⟨rfl,fun _=>rfl,fun _ _=>rfl,fun _ _=>rfl,fun _ _ _=>rfl,fun _=>rfl,fun _=>rfl,rfl,fun _ _=>rfl,fun _=>rfl,fun _ _ _=>tc,fun _ _ _=>fV,fun _ _=>fV,fun _=>rfl,fun _=>rfl,fun _ _=>rfl,fun _ _=>rfl⟩
theorem ar8 (id id':Nat) :
 (cE id id' AV.undef=AV.undef) ∧
 (∀(b:Bool),cE id id' (.bool b)=(.bool b)) ∧
 (∀(k:IntKind) (n:Int),cE id id' (.int k n)=(.int k n)) ∧
 (∀(k:FloatKind) (n:Nat),cE id id' (.fl k n)=(.fl k n)) ∧
 (∀(k:FloatKind) (a b:Nat),cE id id' (.cx k a b)=(.cx k a b)) ∧
 (∀(l:List UInt8),cE id id' (.str l)=(.str l)) ∧
 (∀(x:Value),cE id id' (.lit x)=(.lit x)) ∧
 (cE id id' AV.al=AV.al) ∧
 (∀(sz0:Nat) (es0:List AV),cE id id' (.ro sz0 es0)=(.ro sz0 es0)) ∧
 (∀(x:AV),cE id id' (.az x)=(.az x)) ∧
 (∀(i o n:Nat),cE id id' (.sl i o n)=.sl (rn id id' i) o n) ∧
 (∀(i j f:Nat),cE id id' (.ptr i j f)=.ptr (rn id id' i) j f) ∧
 (∀(i f:Nat),cE id id' (.ab i f)=.ab (rn id id' i) f) ∧
 (∀(cs:List AV),cE id id' (.agg cs)=AV.undef) ∧
 (∀(cs:List AV),cE id id' (.ak cs)=AV.undef) ∧
 (∀(b:Bool) (x:AV),cE id id' (.gd b x)=AV.undef) ∧
 (∀(f:Nat) (cs:List AV),cE id id' (.aR f cs)=AV.undef):=
 ⟨rfl,fun _=>rfl,fun _ _=>rfl,fun _ _=>rfl,fun _ _ _=>rfl,fun _=>rfl,fun _=>rfl,rfl,fun _ _=>rfl,fun _=>rfl,fun _ _ _=>rfl,fun _ _ _=>rfl,fun _ _=>rfl,fun _=>rfl,fun _=>rfl,fun _ _=>rfl,fun _ _=>rfl⟩
theorem asc (id id':Nat) :
 (ed id id' AV.undef=AV.undef) ∧
 (∀(b:Bool),ed id id' (.bool b)=(.bool b)) ∧
 (∀(k:IntKind) (n:Int),ed id id' (.int k n)=(.int k n)) ∧
 (∀(k:FloatKind) (n:Nat),ed id id' (.fl k n)=(.fl k n)) ∧
 (∀(k:FloatKind) (a b:Nat),ed id id' (.cx k a b)=(.cx k a b)) ∧
 (∀(l:List UInt8),ed id id' (.str l)=(.str l)) ∧
 (∀(x:Value),ed id id' (.lit x)=(.lit x)) ∧
 (ed id id' AV.al=AV.al) ∧
 (∀(sz0:Nat) (es0:List AV),ed id id' (.ro sz0 es0)=(.ro sz0 es0)) ∧
 (∀(x:AV),ed id id' (.az x)=(.az x)) ∧
 (∀(i o n:Nat),ed id id' (.sl i o n)=.sl (rn id id' i) o n) ∧
 (∀(i j f:Nat),ed id id' (.ptr i j f)=.ptr (rn id id' i) j f) ∧
 (∀(i f:Nat),ed id id' (.ab i f)=.ab (rn id id' i) f) ∧
 (∀(cs:List AV),ed id id' (.agg cs)=.agg (cs.map (cE id id'))) ∧
 (∀(cs:List AV),ed id id' (.ak cs)=.ak (cs.map (hU id id'))) ∧
 (∀(b:Bool) (x:AV),ed id id' (.gd b x)=.gd b (hU id id' x)) ∧
 (∀(f:Nat) (cs:List AV),ed id id' (.aR f cs)=.aR f (cs.map (cE id id'))):=
 ⟨rfl,fun _=>rfl,fun _ _=>rfl,fun _ _=>rfl,fun _ _ _=>rfl,fun _=>rfl,fun _=>rfl,rfl,fun _ _=>rfl,fun _=>rfl,fun _ _ _=>rfl,fun _ _ _=>rfl,fun _ _=>rfl,fun _=>rfl,fun _=>rfl,fun _ _=>rfl,fun _ _=>rfl⟩
theorem Yu (ids keep:List Nat) :
 (cO ids keep AV.undef=AV.undef) ∧
 (∀(b:Bool),cO ids keep (.bool b)=(.bool b)) ∧
 (∀(k:IntKind) (n:Int),cO ids keep (.int k n)=(.int k n)) ∧
 (∀(k:FloatKind) (n:Nat),cO ids keep (.fl k n)=(.fl k n)) ∧
 (∀(k:FloatKind) (a b:Nat),cO ids keep (.cx k a b)=(.cx k a b)) ∧
 (∀(l:List UInt8),cO ids keep (.str l)=(.str l)) ∧
 (∀(x:Value),cO ids keep (.lit x)=(.lit x)) ∧
 (cO ids keep AV.al=AV.al) ∧
 (∀(sz0:Nat) (es0:List AV),cO ids keep (.ro sz0 es0)=(.ro sz0 es0)) ∧
 (∀(x:AV),cO ids keep (.az x)=(.az x)) ∧
 (∀(i o n:Nat),cO ids keep (.sl i o n)=cu (memN i ids) (.sl i o n)) ∧
 (∀(i j f:Nat),cO ids keep (.ptr i j f)=cu (memN i ids) (.ptr i j f)) ∧
 (∀(i f:Nat),cO ids keep (.ab i f)=jS (memN i keep) (.ab i f) (cu (memN i ids) (.ab i f))) ∧
 (∀(cs:List AV),cO ids keep (.agg cs)=AV.undef) ∧
 (∀(cs:List AV),cO ids keep (.ak cs)=AV.undef) ∧
 (∀(b:Bool) (x:AV),cO ids keep (.gd b x)=AV.undef) ∧
 (∀(f:Nat) (cs:List AV),cO ids keep (.aR f cs)=AV.undef):=
 ⟨rfl,fun _=>rfl,fun _ _=>rfl,fun _ _=>rfl,fun _ _ _=>rfl,fun _=>rfl,fun _=>rfl,rfl,fun _ _=>rfl,fun _=>rfl,fun _ _ _=>mg,fun _ _ _=>mg,fun _ _=>(by rw[←mg,←zh];rfl),fun _=>rfl,fun _=>rfl,fun _ _=>rfl,fun _ _=>rfl⟩
theorem Ys (ids keep:List Nat) :
 (kI ids keep AV.undef=AV.undef) ∧
 (∀(b:Bool),kI ids keep (.bool b)=(.bool b)) ∧
 (∀(k:IntKind) (n:Int),kI ids keep (.int k n)=(.int k n)) ∧
 (∀(k:FloatKind) (n:Nat),kI ids keep (.fl k n)=(.fl k n)) ∧
 (∀(k:FloatKind) (a b:Nat),kI ids keep (.cx k a b)=(.cx k a b)) ∧
 (∀(l:List UInt8),kI ids keep (.str l)=(.str l)) ∧
 (∀(x:Value),kI ids keep (.lit x)=(.lit x)) ∧
 (kI ids keep AV.al=AV.al) ∧
 (∀(sz0:Nat) (es0:List AV),kI ids keep (.ro sz0 es0)=(.ro sz0 es0)) ∧
 (∀(x:AV),kI ids keep (.az x)=(.az x)) ∧
 (∀(i o n:Nat),kI ids keep (.sl i o n)=cu (memN i ids) (.sl i o n)) ∧
 (∀(i j f:Nat),kI ids keep (.ptr i j f)=cu (memN i ids) (.ptr i j f)) ∧
 (∀(i f:Nat),kI ids keep (.ab i f)=jS (memN i keep) (.ab i f) (cu (memN i ids) (.ab i f))) ∧
 (∀(cs:List AV),kI ids keep (.agg cs)=.agg (cs.map (cO ids keep))) ∧
 (∀(cs:List AV),kI ids keep (.ak cs)=.ak (cs.map (jm ids keep))) ∧
 (∀(b:Bool) (x:AV),kI ids keep (.gd b x)=.gd b (jm ids keep x)) ∧
 (∀(f:Nat) (cs:List AV),kI ids keep (.aR f cs)=.aR f (cs.map (cO ids keep))):=
 ⟨rfl,fun _=>rfl,fun _ _=>rfl,fun _ _=>rfl,fun _ _ _=>rfl,fun _=>rfl,fun _=>rfl,rfl,fun _ _=>rfl,fun _=>rfl,fun _ _ _=>mg,fun _ _ _=>mg,fun _ _=>(by rw[←mg,←zh];rfl),fun _=>rfl,fun _=>rfl,fun _ _=>rfl,fun _ _=>rfl⟩
theorem Ig (h:HP) :
 (borrow h AV.undef=AV.undef) ∧
 (∀(b:Bool),borrow h (.bool b)=(.bool b)) ∧
 (∀(k:IntKind) (n:Int),borrow h (.int k n)=(.int k n)) ∧
 (∀(k:FloatKind) (n:Nat),borrow h (.fl k n)=(.fl k n)) ∧
 (∀(k:FloatKind) (a b:Nat),borrow h (.cx k a b)=(.cx k a b)) ∧
 (∀(l:List UInt8),borrow h (.str l)=(.str l)) ∧
 (∀(x:Value),borrow h (.lit x)=(.lit x)) ∧
 (borrow h AV.al=AV.al) ∧
 (∀(sz0:Nat) (es0:List AV),borrow h (.ro sz0 es0)=(.ro sz0 es0)) ∧
 (∀(x:AV),borrow h (.az x)=(.az x)) ∧
 (∀(i o n:Nat),borrow h (.sl i o n)=borSl (hget h i) o n) ∧
 (∀(i j f:Nat),borrow h (.ptr i j f)=AV.undef) ∧
 (∀(i f:Nat),borrow h (.ab i f)=AV.undef) ∧
 (∀(cs:List AV),borrow h (.agg cs)=.agg (cs.map (borrowC h))) ∧
 (∀(cs:List AV),borrow h (.ak cs)=AV.undef) ∧
 (∀(b:Bool) (x:AV),borrow h (.gd b x)=AV.undef) ∧
 (∀(f:Nat) (cs:List AV),borrow h (.aR f cs)=AV.undef):=
 ⟨rfl,fun _=>rfl,fun _ _=>rfl,fun _ _=>rfl,fun _ _ _=>rfl,fun _=>rfl,fun _=>rfl,rfl,fun _ _=>rfl,fun _=>rfl,fun _ _ _=>(by simp only[borrow,borrowC,borSl];split<;>simp_all),fun _ _ _=>rfl,fun _ _=>rfl,fun _=>rfl,fun _=>rfl,fun _ _=>rfl,fun _ _=>rfl⟩
theorem GK (h0 h:HP) :
 (bcell h0 h AV.undef=AV.undef) ∧
 (∀(b:Bool),bcell h0 h (.bool b)=(.bool b)) ∧
 (∀(k:IntKind) (n:Int),bcell h0 h (.int k n)=(.int k n)) ∧
 (∀(k:FloatKind) (n:Nat),bcell h0 h (.fl k n)=(.fl k n)) ∧
 (∀(k:FloatKind) (a b:Nat),bcell h0 h (.cx k a b)=(.cx k a b)) ∧
 (∀(l:List UInt8),bcell h0 h (.str l)=(.str l)) ∧
 (∀(x:Value),bcell h0 h (.lit x)=(.lit x)) ∧
 (bcell h0 h AV.al=AV.al) ∧
 (∀(sz0:Nat) (es0:List AV),bcell h0 h (.ro sz0 es0)=(.ro sz0 es0)) ∧
 (∀(x:AV),bcell h0 h (.az x)=(.az x)) ∧
 (∀(i o n:Nat),bcell h0 h (.sl i o n)=keepO (hget h0 i) AV.undef (borSl (hget h i) o n)) ∧
 (∀(i j f:Nat),bcell h0 h (.ptr i j f)=AV.undef) ∧
 (∀(i f:Nat),bcell h0 h (.ab i f)=AV.undef) ∧
 (∀(cs:List AV),bcell h0 h (.agg cs)=AV.undef) ∧
 (∀(cs:List AV),bcell h0 h (.ak cs)=AV.undef) ∧
 (∀(b:Bool) (x:AV),bcell h0 h (.gd b x)=AV.undef) ∧
 (∀(f:Nat) (cs:List AV),bcell h0 h (.aR f cs)=AV.undef):=
 ⟨rfl,fun _=>rfl,fun _ _=>rfl,fun _ _=>rfl,fun _ _ _=>rfl,fun _=>rfl,fun _=>rfl,rfl,fun _ _=>rfl,fun _=>rfl,fun _ _ _=>(by simp only[bcell,borrowC,borSl,keepO];split<;>(try split)<;>simp_all),fun _ _ _=>rfl,fun _ _=>rfl,fun _=>rfl,fun _=>rfl,fun _ _=>rfl,fun _ _=>rfl⟩
theorem Ic (h0 h:HP) :
 (bor h0 h AV.undef=AV.undef) ∧
 (∀(b:Bool),bor h0 h (.bool b)=(.bool b)) ∧
 (∀(k:IntKind) (n:Int),bor h0 h (.int k n)=(.int k n)) ∧
 (∀(k:FloatKind) (n:Nat),bor h0 h (.fl k n)=(.fl k n)) ∧
 (∀(k:FloatKind) (a b:Nat),bor h0 h (.cx k a b)=(.cx k a b)) ∧
 (∀(l:List UInt8),bor h0 h (.str l)=(.str l)) ∧
 (∀(x:Value),bor h0 h (.lit x)=(.lit x)) ∧
 (bor h0 h AV.al=AV.al) ∧
 (∀(sz0:Nat) (es0:List AV),bor h0 h (.ro sz0 es0)=(.ro sz0 es0)) ∧
 (∀(x:AV),bor h0 h (.az x)=(.az x)) ∧
 (∀(i o n:Nat),bor h0 h (.sl i o n)=keepO (hget h0 i) (.sl i o n) (borSl (hget h i) o n)) ∧
 (∀(i j f:Nat),bor h0 h (.ptr i j f)=keepO (hget h0 i) (.ptr i j f) AV.undef) ∧
 (∀(i f:Nat),bor h0 h (.ab i f)=keepO (hget h0 i) (.ab i f) (borV h0 h (hget h i) f)) ∧
 (∀(cs:List AV),bor h0 h (.agg cs)=.agg (cs.map (borC h0 h))) ∧
 (∀(cs:List AV),bor h0 h (.ak cs)=AV.undef) ∧
 (∀(b:Bool) (x:AV),bor h0 h (.gd b x)=AV.undef) ∧
 (∀(f:Nat) (cs:List AV),bor h0 h (.aR f cs)=AV.undef):=
 ⟨rfl,fun _=>rfl,fun _ _=>rfl,fun _ _=>rfl,fun _ _ _=>rfl,fun _=>rfl,fun _=>rfl,rfl,fun _ _=>rfl,fun _=>rfl,fun _ _ _=>(by simp only[bor,borC,borrowC,borSl,keepO];split<;>(try split)<;>simp_all),fun _ _ _=>(by simp only[bor,borC,keepO];rfl),fun _ _=>(by simp only[bor,borC,borV,keepO];rfl),fun _=>rfl,fun _=>rfl,fun _ _=>rfl,fun _ _=>rfl⟩
theorem abr :
 (noRefC  AV.undef=true) ∧
 (∀(b:Bool),noRefC  (.bool b)=true) ∧
 (∀(k:IntKind) (n:Int),noRefC  (.int k n)=true) ∧
 (∀(k:FloatKind) (n:Nat),noRefC  (.fl k n)=true) ∧
 (∀(k:FloatKind) (a b:Nat),noRefC  (.cx k a b)=true) ∧
 (∀(l:List UInt8),noRefC  (.str l)=true) ∧
 (∀(x:Value),noRefC  (.lit x)=true) ∧
 (noRefC  AV.al=true) ∧
 (∀(sz0:Nat) (es0:List AV),noRefC  (.ro sz0 es0)=true) ∧
 (∀(x:AV),noRefC  (.az x)=true) ∧
 (∀(i o n:Nat),noRefC  (.sl i o n)=false) ∧
 (∀(i j f:Nat),noRefC  (.ptr i j f)=false) ∧
 (∀(i f:Nat),noRefC  (.ab i f)=false) ∧
 (∀(cs:List AV),noRefC  (.agg cs)=false) ∧
 (∀(cs:List AV),noRefC  (.ak cs)=false) ∧
 (∀(b:Bool) (x:AV),noRefC  (.gd b x)=false) ∧
 (∀(f:Nat) (cs:List AV),noRefC  (.aR f cs)=false):=
 ⟨rfl,fun _=>rfl,fun _ _=>rfl,fun _ _=>rfl,fun _ _ _=>rfl,fun _=>rfl,fun _=>rfl,rfl,fun _ _=>rfl,fun _=>rfl,fun _ _ _=>rfl,fun _ _ _=>rfl,fun _ _=>rfl,fun _=>rfl,fun _=>rfl,fun _ _=>rfl,fun _ _=>rfl⟩
theorem Wy :
 (isCell  AV.undef=false) ∧
 (∀(b:Bool),isCell  (.bool b)=true) ∧
 (∀(k:IntKind) (n:Int),isCell  (.int k n)=true) ∧
 (∀(k:FloatKind) (n:Nat),isCell  (.fl k n)=true) ∧
 (∀(k:FloatKind) (a b:Nat),isCell  (.cx k a b)=true) ∧
 (∀(l:List UInt8),isCell  (.str l)=true) ∧
 (∀(x:Value),isCell  (.lit x)=x.oneCell') ∧
 (isCell  AV.al=true) ∧
 (∀(sz0:Nat) (es0:List AV),isCell  (.ro sz0 es0)=true) ∧
 (∀(x:AV),isCell  (.az x)=true) ∧
 (∀(i o n:Nat),isCell  (.sl i o n)=true) ∧
 (∀(i j f:Nat),isCell  (.ptr i j f)=true) ∧
 (∀(i f:Nat),isCell  (.ab i f)=true) ∧
 (∀(cs:List AV),isCell  (.agg cs)=false) ∧
 (∀(cs:List AV),isCell  (.ak cs)=false) ∧
 (∀(b:Bool) (x:AV),isCell  (.gd b x)=false) ∧
 (∀(f:Nat) (cs:List AV),isCell  (.aR f cs)=false):=
 ⟨rfl,fun _=>rfl,fun _ _=>rfl,fun _ _=>rfl,fun _ _ _=>rfl,fun _=>rfl,fun _=>rfl,rfl,fun _ _=>rfl,fun _=>rfl,fun _ _ _=>rfl,fun _ _ _=>rfl,fun _ _=>rfl,fun _=>rfl,fun _=>rfl,fun _ _=>rfl,fun _ _=>rfl⟩
theorem abt :
 (bM  AV.undef=true) ∧
 (∀(b:Bool),bM  (.bool b)=true) ∧
 (∀(k:IntKind) (n:Int),bM  (.int k n)=true) ∧
 (∀(k:FloatKind) (n:Nat),bM  (.fl k n)=true) ∧
 (∀(k:FloatKind) (a b:Nat),bM  (.cx k a b)=true) ∧
 (∀(l:List UInt8),bM  (.str l)=true) ∧
 (∀(x:Value),bM  (.lit x)=true) ∧
 (bM  AV.al=true) ∧
 (∀(sz0:Nat) (es0:List AV),bM  (.ro sz0 es0)=true) ∧
 (∀(x:AV),bM  (.az x)=true) ∧
 (∀(i o n:Nat),bM  (.sl i o n)=false) ∧
 (∀(i j f:Nat),bM  (.ptr i j f)=false) ∧
 (∀(i f:Nat),bM  (.ab i f)=false) ∧
 (∀(cs:List AV),bM  (.agg cs)=cs.all noRefC) ∧
 (∀(cs:List AV),bM  (.ak cs)=false) ∧
 (∀(b:Bool) (x:AV),bM  (.gd b x)=false) ∧
 (∀(f:Nat) (cs:List AV),bM  (.aR f cs)=false):=
 ⟨rfl,fun _=>rfl,fun _ _=>rfl,fun _ _=>rfl,fun _ _ _=>rfl,fun _=>rfl,fun _=>rfl,rfl,fun _ _=>rfl,fun _=>rfl,fun _ _ _=>rfl,fun _ _ _=>rfl,fun _ _=>rfl,fun _=>rfl,fun _=>rfl,fun _ _=>rfl,fun _ _=>rfl⟩
theorem Nn :
 (flA  AV.undef=true) ∧
 (∀(b:Bool),flA  (.bool b)=true) ∧
 (∀(k:IntKind) (n:Int),flA  (.int k n)=true) ∧
 (∀(k:FloatKind) (n:Nat),flA  (.fl k n)=true) ∧
 (∀(k:FloatKind) (a b:Nat),flA  (.cx k a b)=true) ∧
 (∀(l:List UInt8),flA  (.str l)=true) ∧
 (∀(x:Value),flA  (.lit x)=true) ∧
 (flA  AV.al=true) ∧
 (∀(sz0:Nat) (es0:List AV),flA  (.ro sz0 es0)=false) ∧
 (∀(x:AV),flA  (.az x)=false) ∧
 (∀(i o n:Nat),flA  (.sl i o n)=false) ∧
 (∀(i j f:Nat),flA  (.ptr i j f)=false) ∧
 (∀(i f:Nat),flA  (.ab i f)=false) ∧
 (∀(cs:List AV),flA  (.agg cs)=cs.all flC) ∧
 (∀(cs:List AV),flA  (.ak cs)=false) ∧
 (∀(b:Bool) (x:AV),flA  (.gd b x)=false) ∧
 (∀(f:Nat) (cs:List AV),flA  (.aR f cs)=false):=
 ⟨rfl,fun _=>rfl,fun _ _=>rfl,fun _ _=>rfl,fun _ _ _=>rfl,fun _=>rfl,fun _=>rfl,rfl,fun _ _=>rfl,fun _=>rfl,fun _ _ _=>rfl,fun _ _ _=>rfl,fun _ _=>rfl,fun _=>rfl,fun _=>rfl,fun _ _=>rfl,fun _ _=>rfl⟩
theorem NJ (h:HP) :
 (c9 h AV.undef=true) ∧
 (∀(b:Bool),c9 h (.bool b)=true) ∧
 (∀(k:IntKind) (n:Int),c9 h (.int k n)=true) ∧
 (∀(k:FloatKind) (n:Nat),c9 h (.fl k n)=true) ∧
 (∀(k:FloatKind) (a b:Nat),c9 h (.cx k a b)=true) ∧
 (∀(l:List UInt8),c9 h (.str l)=true) ∧
 (∀(x:Value),c9 h (.lit x)=true) ∧
 (c9 h AV.al=true) ∧
 (∀(sz0:Nat) (es0:List AV),c9 h (.ro sz0 es0)=false) ∧
 (∀(x:AV),c9 h (.az x)=false) ∧
 (∀(i o n:Nat),c9 h (.sl i o n)=(hget h i).isSome) ∧
 (∀(i j f:Nat),c9 h (.ptr i j f)=(hget h i).isSome) ∧
 (∀(i f:Nat),c9 h (.ab i f)=(hget h i).isSome) ∧
 (∀(cs:List AV),c9 h (.agg cs)=false) ∧
 (∀(cs:List AV),c9 h (.ak cs)=false) ∧
 (∀(b:Bool) (x:AV),c9 h (.gd b x)=false) ∧
 (∀(f:Nat) (cs:List AV),c9 h (.aR f cs)=false):=
 ⟨rfl,fun _=>rfl,fun _ _=>rfl,fun _ _=>rfl,fun _ _ _=>rfl,fun _=>rfl,fun _=>rfl,rfl,fun _ _=>rfl,fun _=>rfl,fun _ _ _=>rfl,fun _ _ _=>rfl,fun _ _=>rfl,fun _=>rfl,fun _=>rfl,fun _ _=>rfl,fun _ _=>rfl⟩
theorem Ut (h:HP) :
 (cU h AV.undef=true) ∧
 (∀(b:Bool),cU h (.bool b)=true) ∧
 (∀(k:IntKind) (n:Int),cU h (.int k n)=true) ∧
 (∀(k:FloatKind) (n:Nat),cU h (.fl k n)=true) ∧
 (∀(k:FloatKind) (a b:Nat),cU h (.cx k a b)=true) ∧
 (∀(l:List UInt8),cU h (.str l)=true) ∧
 (∀(x:Value),cU h (.lit x)=true) ∧
 (cU h AV.al=true) ∧
 (∀(sz0:Nat) (es0:List AV),cU h (.ro sz0 es0)=true) ∧
 (∀(x:AV),cU h (.az x)=true) ∧
 (∀(i o n:Nat),cU h (.sl i o n)=(hget h i).isSome) ∧
 (∀(i j f:Nat),cU h (.ptr i j f)=(hget h i).isSome) ∧
 (∀(i f:Nat),cU h (.ab i f)=(hget h i).isSome) ∧
 (∀(cs:List AV),cU h (.agg cs)=false) ∧
 (∀(cs:List AV),cU h (.ak cs)=false) ∧
 (∀(b:Bool) (x:AV),cU h (.gd b x)=false) ∧
 (∀(f:Nat) (cs:List AV),cU h (.aR f cs)=false):=
 ⟨rfl,fun _=>rfl,fun _ _=>rfl,fun _ _=>rfl,fun _ _ _=>rfl,fun _=>rfl,fun _=>rfl,rfl,fun _ _=>rfl,fun _=>rfl,fun _ _ _=>rfl,fun _ _ _=>rfl,fun _ _=>rfl,fun _=>rfl,fun _=>rfl,fun _ _=>rfl,fun _ _=>rfl⟩
theorem Us (h:HP) :
 (dN h AV.undef=true) ∧
 (∀(b:Bool),dN h (.bool b)=true) ∧
 (∀(k:IntKind) (n:Int),dN h (.int k n)=true) ∧
 (∀(k:FloatKind) (n:Nat),dN h (.fl k n)=true) ∧
 (∀(k:FloatKind) (a b:Nat),dN h (.cx k a b)=true) ∧
 (∀(l:List UInt8),dN h (.str l)=true) ∧
 (∀(x:Value),dN h (.lit x)=true) ∧
 (dN h AV.al=true) ∧
 (∀(sz0:Nat) (es0:List AV),dN h (.ro sz0 es0)=true) ∧
 (∀(x:AV),dN h (.az x)=true) ∧
 (∀(i o n:Nat),dN h (.sl i o n)=(hget h i).isSome) ∧
 (∀(i j f:Nat),dN h (.ptr i j f)=(hget h i).isSome) ∧
 (∀(i f:Nat),dN h (.ab i f)=(hget h i).isSome) ∧
 (∀(cs:List AV),dN h (.agg cs)=cs.all (cU h)) ∧
 (∀(cs:List AV),dN h (.ak cs)=false) ∧
 (∀(b:Bool) (x:AV),dN h (.gd b x)=false) ∧
 (∀(f:Nat) (cs:List AV),dN h (.aR f cs)=false):=
 ⟨rfl,fun _=>rfl,fun _ _=>rfl,fun _ _=>rfl,fun _ _ _=>rfl,fun _=>rfl,fun _=>rfl,rfl,fun _ _=>rfl,fun _=>rfl,fun _ _ _=>rfl,fun _ _ _=>rfl,fun _ _=>rfl,fun _=>rfl,fun _=>rfl,fun _ _=>rfl,fun _ _=>rfl⟩
theorem Uv (h:HP) :
 (dX h AV.undef=true) ∧
 (∀(b:Bool),dX h (.bool b)=true) ∧
 (∀(k:IntKind) (n:Int),dX h (.int k n)=true) ∧
 (∀(k:FloatKind) (n:Nat),dX h (.fl k n)=true) ∧
 (∀(k:FloatKind) (a b:Nat),dX h (.cx k a b)=true) ∧
 (∀(l:List UInt8),dX h (.str l)=true) ∧
 (∀(x:Value),dX h (.lit x)=true) ∧
 (dX h AV.al=true) ∧
 (∀(sz0:Nat) (es0:List AV),dX h (.ro sz0 es0)=true) ∧
 (∀(x:AV),dX h (.az x)=true) ∧
 (∀(i o n:Nat),dX h (.sl i o n)=(hget h i).isSome) ∧
 (∀(i j f:Nat),dX h (.ptr i j f)=(hget h i).isSome) ∧
 (∀(i f:Nat),dX h (.ab i f)=(hget h i).isSome) ∧
 (∀(cs:List AV),dX h (.agg cs)=cs.all (cU h)) ∧
 (∀(cs:List AV),dX h (.ak cs)=cs.all (dN h)) ∧
 (∀(b:Bool) (x:AV),dX h (.gd b x)=false) ∧
 (∀(f:Nat) (cs:List AV),dX h (.aR f cs)=false):=
 ⟨rfl,fun _=>rfl,fun _ _=>rfl,fun _ _=>rfl,fun _ _ _=>rfl,fun _=>rfl,fun _=>rfl,rfl,fun _ _=>rfl,fun _=>rfl,fun _ _ _=>rfl,fun _ _ _=>rfl,fun _ _=>rfl,fun _=>rfl,fun _=>rfl,fun _ _=>rfl,fun _ _=>rfl⟩
theorem ayP :
 (stripV  AV.undef=AV.undef) ∧
 (∀(b:Bool),stripV  (.bool b)=(.bool b)) ∧
 (∀(k:IntKind) (n:Int),stripV  (.int k n)=(.int k n)) ∧
 (∀(k:FloatKind) (n:Nat),stripV  (.fl k n)=(.fl k n)) ∧
 (∀(k:FloatKind) (a b:Nat),stripV  (.cx k a b)=(.cx k a b)) ∧
 (∀(l:List UInt8),stripV  (.str l)=(.str l)) ∧
 (∀(x:Value),stripV  (.lit x)=(.lit x)) ∧
 (stripV  AV.al=AV.al) ∧
 (∀(sz0:Nat) (es0:List AV),stripV  (.ro sz0 es0)=(.ro sz0 es0)) ∧
 (∀(x:AV),stripV  (.az x)=(.az x)) ∧
 (∀(i o n:Nat),stripV  (.sl i o n)=(.sl i o n)) ∧
 (∀(i j f:Nat),stripV  (.ptr i j f)=(.ptr i j f)) ∧
 (∀(i f:Nat),stripV  (.ab i f)=(.ab i f)) ∧
 (∀(cs:List AV),stripV  (.agg cs)=(.agg cs)) ∧
 (∀(cs:List AV),stripV  (.ak cs)=(.ak cs)) ∧
 (∀(b:Bool) (x:AV),stripV  (.gd b x)=x) ∧
 (∀(f:Nat) (cs:List AV),stripV  (.aR f cs)=.aR f cs):=
 ⟨rfl,fun _=>rfl,fun _ _=>rfl,fun _ _=>rfl,fun _ _ _=>rfl,fun _=>rfl,fun _=>rfl,rfl,fun _ _=>rfl,fun _=>rfl,fun _ _ _=>rfl,fun _ _ _=>rfl,fun _ _=>rfl,fun _=>rfl,fun _=>rfl,fun _ _=>rfl,fun _ _=>rfl⟩
theorem ayO (γ:Bool) :
 (aB γ AV.undef=True) ∧
 (∀(b:Bool),aB γ (.bool b)=True) ∧
 (∀(k:IntKind) (n:Int),aB γ (.int k n)=True) ∧
 (∀(k:FloatKind) (n:Nat),aB γ (.fl k n)=True) ∧
 (∀(k:FloatKind) (a b:Nat),aB γ (.cx k a b)=True) ∧
 (∀(l:List UInt8),aB γ (.str l)=True) ∧
 (∀(x:Value),aB γ (.lit x)=True) ∧
 (aB γ AV.al=True) ∧
 (∀(sz0:Nat) (es0:List AV),aB γ (.ro sz0 es0)=True) ∧
 (∀(x:AV),aB γ (.az x)=True) ∧
 (∀(i o n:Nat),aB γ (.sl i o n)=True) ∧
 (∀(i j f:Nat),aB γ (.ptr i j f)=True) ∧
 (∀(i f:Nat),aB γ (.ab i f)=True) ∧
 (∀(cs:List AV),aB γ (.agg cs)=True) ∧
 (∀(cs:List AV),aB γ (.ak cs)=True) ∧
 (∀(b:Bool) (x:AV),aB γ (.gd b x)=(γ=true→b=true)) ∧
 (∀(f:Nat) (cs:List AV),aB γ (.aR f cs)=True):=
 ⟨rfl,fun _=>rfl,fun _ _=>rfl,fun _ _=>rfl,fun _ _ _=>rfl,fun _=>rfl,fun _=>rfl,rfl,fun _ _=>rfl,fun _=>rfl,fun _ _ _=>rfl,fun _ _ _=>rfl,fun _ _=>rfl,fun _=>rfl,fun _=>rfl,fun _ _=>rfl,fun _ _=>rfl⟩
theorem M0 (st:St):(∀k,ev st (.t k)=(sget st.s k).getD .undef)∧(∀v,ev st (.c v)=v):=⟨fun _=>rfl,fun _=>rfl⟩
theorem agL (st:St) (v:AV):(∀d,put st (some d) v=⟨(d,v)::st.s,st.h⟩)∧put st none v=st:=⟨fun _=>rfl,rfl⟩
theorem OI (w:Bool):(∀β,grd (some (.bool β)) w=some (β==w))∧(∀b β,grd (some (.gd b (.bool β))) w=some (b&&(β==w)))∧grd (some (.gd false .undef)) w=some false:=⟨fun _=>rfl,fun b _=>by cases b<;>rfl,rfl⟩
theorem abo (st:St) (d:Nat) (W:aP):cf st d W=⟨killS d st.s,cc (fB d st.h) d W⟩:=(rfl)
theorem YQ (id:Nat):(∀sz es,kf id (.arr sz es)=.arr sz es)∧(∀cs,kf id (.var cs)=.var (cs.map (killC id)))∧(∀kd l,kf id (.mp kd l)=.mp kd l):=⟨fun _ _=>rfl,fun _=>rfl,fun _ _=>rfl⟩
theorem Oo (id sz:Nat) (es:List AV):(∀sz' es',kT id sz es (.arr sz' es')=.arr sz' es')∧(∀cs,kT id sz es (.var cs)=.var (cs.map (cD id sz es)))∧(∀kd l,kT id sz es (.mp kd l)=.mp kd l):=⟨fun _ _=>rfl,fun _=>rfl,fun _ _=>rfl⟩
theorem asb (id id':Nat):(∀sz es,kn id id' (.arr sz es)=.arr sz es)∧(∀cs,kn id id' (.var cs)=.var (cs.map fun c=>cE id id' (killC id' c)))∧(∀kd l,kn id id' (.mp kd l)=.mp kd l):=⟨fun _ _=>rfl,fun _=>rfl,fun _ _=>rfl⟩
theorem Yt (ids keep:List Nat):(∀sz es,jH ids keep (.arr sz es)=.arr sz es)∧(∀cs,jH ids keep (.var cs)=.var (cs.map (cO ids keep)))∧(∀kd l,jH ids keep (.mp kd l)=.mp kd l):=⟨fun _ _=>rfl,fun _=>rfl,fun _ _=>rfl⟩
theorem Uw (h:HP):(∀sz es,mf h (.arr sz es)=true)∧(∀cs,mf h (.var cs)=cs.all (cU h))∧(∀kd l,mf h (.mp kd l)=true):=⟨fun _ _=>rfl,fun _=>rfl,fun _ _=>rfl⟩
theorem Ns (h:HP):(∀sz es,kb h (.arr sz es)=es.all flA)∧(∀cs,kb h (.var cs)=cs.all (c9 h))∧(∀kd (l:List (MK×AV)),kb h (.mp kd l)=l.all fun p=>flA p.2):=⟨fun _ _=>rfl,fun _=>rfl,fun _ _=>rfl⟩
theorem Uu (h:HP):iJ h []=true∧(∀k W r,iJ h ((k,W)::r)=(mf h W&&iJ h r)):=⟨rfl,fun _ _ _=>rfl⟩
theorem Nq (h:HP):flH h []=true∧(∀k W r,flH h ((k,W)::r)=(kb h W&&flH h r)):=⟨rfl,fun _ _ _=>rfl⟩
theorem abl:ea []=[]∧(∀k W r,ea ((k,W)::r)=k::ea r):=⟨rfl,fun _ _ _=>rfl⟩
theorem abI (k:Nat):numbered k []=[]∧(∀x r,numbered k (x::r)=(k,x)::numbered (k+1) r):=⟨rfl,fun _ _=>rfl⟩
theorem asa (id id':Nat):renS id id' []=[]∧(∀k v r,renS id id' ((k,v)::r)=(k,ed id id' (kill id' v))::renS id id' r):=⟨rfl,fun _ _ _=>rfl⟩
theorem ar9 (id id':Nat):renH id id' []=[]∧(∀k v r,renH id id' ((k,v)::r)=(rn id id' k,kn id id' v)::renH id id' r):=⟨rfl,fun _ _ _=>rfl⟩
theorem ayz (id id':Nat) (st:St):qH id id' st=⟨renS id id' st.s,renH id id' st.h⟩:=(rfl)
theorem ayu (k id sz:Nat) (st:St):uE k id sz st=⟨(k,.sl id 0 0)::killS id st.s,cc (fB id st.h) id (.arr sz [])⟩:=(rfl)
theorem ayt (p f id sz:Nat) (cs:List AV) (st:St):uF p f id sz cs st=⟨killS id st.s,cc (cc (fB id st.h) id (.arr sz [])) p (.var ((cs.map (killC id)).set f (.sl id 0 0)))⟩:=(rfl)
def kX (b:Bool) (x y:Option (List AV)):Option (List AV):=match b with
 | true=>x
 | false=>y
def uz (W:Option aP) (sz o n:Nat):Option (List AV):=match W with
 | some (.arr sz' es)=>kX (sz'==sz) (some (aM es o n)) none
 | _=>none
theorem TH {x y:Option (List AV)}:kX true x y=x:=(rfl)
theorem TG {x y:Option (List AV)}:kX false x y=y:=(rfl)
theorem axK {sz sz' o n:Nat} {es:List AV}:uz (some (.arr sz' es)) sz o n=kX (sz'==sz) (some (aM es o n)) none:=(rfl)
theorem sY {i j:Nat} {x y:Option (List AV)}:(if i=j then x else y)=kX (i==j) x y:=by
 by_cases h:i=j
 ·subst h;rw[if_pos rfl,show(i==i)=true by simp];rfl
 ·rw[if_neg h,show(i==j)=false by simp[h]];rfl
theorem axJ (sz:Nat) (st:St):slE sz st .al=some []∧(∀sz' es,slE sz st (.ro sz' es)=kX (sz'==sz) (some es) none)∧(∀id o n,slE sz st (.sl id o n)=uz (hget st.h id) sz o n):=by
 refine⟨rfl,fun sz' es=>?_,fun id o n=>?_⟩
 ·rw[←sY];rfl
 ·simp only[slE,uz]
  split
  ·rename_i e;rw[e];exact sY
  ·rename_i e
   split
   ·rename_i e2;exact(e _ _ e2).elim
   ·rfl
def kB (b:Bool) (l:List Nat):List Nat:=match b with
 | true=>l
 | false=>[]
def keep1 (x a:AV):List Nat:=match x,a with
 | .ab p f,.ab p' f'=>kB (p==p'&&f==f') [p]
 | _,_=>[]
theorem Yr (l:List Nat):kB true l=l∧kB false l=[]:=⟨rfl,rfl⟩
theorem Yy (x a:AV) (xs as:List AV):keepL2 (x::xs) (a::as)=keep1 x a++keepL2 xs as:=by
 cases x<;>cases a<;>simp only[keepL2,keep1,List.nil_append]
 rename_i p f p' f'
 by_cases h1:p=p'
 ·by_cases h2:f=f'
  ·subst h1;subst h2;simp[kB]
  ·rw[if_pos h1,if_neg h2,show(p==p'&&f==f')=false by simp[h2]];rfl
 ·rw[if_neg h1,show(p==p'&&f==f')=false by simp[h1]];rfl
theorem Yz (as:List AV):keepL2 [] as=[]:=by simp[keepL2]
theorem YA (xs:List AV):keepL2 xs []=[]:=by cases xs<;>simp[keepL2]
theorem Yw:(∀(a:AV),keep1 AV.undef a=[]) ∧
 (∀(b:Bool) (a:AV),keep1 (.bool b) a=[]) ∧
 (∀(k:IntKind) (n:Int) (a:AV),keep1 (.int k n) a=[]) ∧
 (∀(k:FloatKind) (n:Nat) (a:AV),keep1 (.fl k n) a=[]) ∧
 (∀(k:FloatKind) (m n:Nat) (a:AV),keep1 (.cx k m n) a=[]) ∧
 (∀(l:List UInt8) (a:AV),keep1 (.str l) a=[]) ∧
 (∀(v:Value) (a:AV),keep1 (.lit v) a=[]) ∧
 (∀(a:AV),keep1 AV.al a=[]) ∧
 (∀(sz:Nat) (es:List AV) (a:AV),keep1 (.ro sz es) a=[]) ∧
 (∀(x:AV) (a:AV),keep1 (.az x) a=[]) ∧
 (∀(i o n:Nat) (a:AV),keep1 (.sl i o n) a=[]) ∧
 (∀(i j f:Nat) (a:AV),keep1 (.ptr i j f) a=[]) ∧
 (∀(cs:List AV) (a:AV),keep1 (.agg cs) a=[]) ∧
 (∀(cs:List AV) (a:AV),keep1 (.ak cs) a=[]) ∧
 (∀(b:Bool) (x:AV) (a:AV),keep1 (.gd b x) a=[]) ∧
 (∀(p f:Nat),keep1 (.ab p f) AV.undef=[]) ∧
 (∀(p f:Nat) (b:Bool),keep1 (.ab p f) (.bool b)=[]) ∧
 (∀(p f:Nat) (k:IntKind) (n:Int),keep1 (.ab p f) (.int k n)=[]) ∧
 (∀(p f:Nat) (k:FloatKind) (n:Nat),keep1 (.ab p f) (.fl k n)=[]) ∧
 (∀(p f:Nat) (k:FloatKind) (m n:Nat),keep1 (.ab p f) (.cx k m n)=[]) ∧
 (∀(p f:Nat) (l:List UInt8),keep1 (.ab p f) (.str l)=[]) ∧
 (∀(p f:Nat) (v:Value),keep1 (.ab p f) (.lit v)=[]) ∧
 (∀(p f:Nat),keep1 (.ab p f) AV.al=[]) ∧
 (∀(p f:Nat) (sz:Nat) (es:List AV),keep1 (.ab p f) (.ro sz es)=[]) ∧
 (∀(p f:Nat) (x:AV),keep1 (.ab p f) (.az x)=[]) ∧
 (∀(p f:Nat) (i o n:Nat),keep1 (.ab p f) (.sl i o n)=[]) ∧
 (∀(p f:Nat) (i j f:Nat),keep1 (.ab p f) (.ptr i j f)=[]) ∧
 (∀(p f:Nat) (cs:List AV),keep1 (.ab p f) (.agg cs)=[]) ∧
 (∀(p f:Nat) (cs:List AV),keep1 (.ab p f) (.ak cs)=[]) ∧
 (∀(p f:Nat) (b:Bool) (x:AV),keep1 (.ab p f) (.gd b x)=[]) ∧
 (∀(p f p' f':Nat),keep1 (.ab p f) (.ab p' f')=kB (p==p'&&f==f') [p]):=
 ⟨fun _=>rfl,fun _ _=>rfl,fun _ _ _=>rfl,fun _ _ _=>rfl,fun _ _ _ _=>rfl,fun _ _=>rfl,fun _ _=>rfl,fun _=>rfl,fun _ _ _=>rfl,fun _ _=>rfl,fun _ _ _ _=>rfl,fun _ _ _ _=>rfl,fun _ _=>rfl,fun _ _=>rfl,fun _ _ _=>rfl,fun _ _=>rfl,fun _ _ _=>rfl,fun _ _ _ _=>rfl,fun _ _ _ _=>rfl,fun _ _ _ _ _=>rfl,fun _ _ _=>rfl,fun _ _ _=>rfl,fun _ _=>rfl,fun _ _ _ _=>rfl,fun _ _ _=>rfl,fun _ _ _ _ _=>rfl,fun _ _ _ _ _=>rfl,fun _ _ _=>rfl,fun _ _ _=>rfl,fun _ _ _ _=>rfl,fun _ _ _ _=>rfl⟩
def rH (b:Bool) (l:List (Nat×AV)):List (Nat×AV):=match b with
 | true=>l
 | false=>[]
def back1 (s:List (Nat×AV)) (h:HP) (k:Nat) (a:AV):List (Nat×AV):=match a with
 | .sl i o n=>rH ((hget h i).isSome&&(sget s k).isSome) [(k,.sl i o n)]
 | _=>[]
theorem Gr (s:List (Nat×AV)) (h:HP) (k:Nat) (xs:List AE) (a:AV) (as:List AV):backS s h (.t k::xs) (a::as)=back1 s h k a++backS s h xs as:=by
 cases a<;>simp only[backS,back1,List.nil_append]
 rename_i i o n
 cases h1:(hget h i).isSome<;>cases h2:(sget s k).isSome<;>simp[rH]
theorem Gn (s:List (Nat×AV)) (h:HP) (v:AV) (xs:List AE) (a:AV) (as:List AV):backS s h (.c v::xs) (a::as)=backS s h xs as:=by
 cases a<;>simp only[backS]
theorem Gq (s:List (Nat×AV)) (h:HP) (as:List AV):backS s h [] as=[]:=by simp[backS]
theorem Gm:(∀(s:List (Nat×AV)) (h:HP) (k0:Nat),back1 s h k0 AV.undef=[]) ∧
 (∀(s:List (Nat×AV)) (h:HP) (k0:Nat) (b:Bool),back1 s h k0 (.bool b)=[]) ∧
 (∀(s:List (Nat×AV)) (h:HP) (k0:Nat) (k:IntKind) (n:Int),back1 s h k0 (.int k n)=[]) ∧
 (∀(s:List (Nat×AV)) (h:HP) (k0:Nat) (k:FloatKind) (n:Nat),back1 s h k0 (.fl k n)=[]) ∧
 (∀(s:List (Nat×AV)) (h:HP) (k0:Nat) (k:FloatKind) (m n:Nat),back1 s h k0 (.cx k m n)=[]) ∧
 (∀(s:List (Nat×AV)) (h:HP) (k0:Nat) (l:List UInt8),back1 s h k0 (.str l)=[]) ∧
 (∀(s:List (Nat×AV)) (h:HP) (k0:Nat) (v:Value),back1 s h k0 (.lit v)=[]) ∧
 (∀(s:List (Nat×AV)) (h:HP) (k0:Nat),back1 s h k0 AV.al=[]) ∧
 (∀(s:List (Nat×AV)) (h:HP) (k0:Nat) (sz:Nat) (es:List AV),back1 s h k0 (.ro sz es)=[]) ∧
 (∀(s:List (Nat×AV)) (h:HP) (k0:Nat) (x:AV),back1 s h k0 (.az x)=[]) ∧
 (∀(s:List (Nat×AV)) (h:HP) (k0:Nat) (i j f:Nat),back1 s h k0 (.ptr i j f)=[]) ∧
 (∀(s:List (Nat×AV)) (h:HP) (k0:Nat) (cs:List AV),back1 s h k0 (.agg cs)=[]) ∧
 (∀(s:List (Nat×AV)) (h:HP) (k0:Nat) (cs:List AV),back1 s h k0 (.ak cs)=[]) ∧
 (∀(s:List (Nat×AV)) (h:HP) (k0:Nat) (b:Bool) (x:AV),back1 s h k0 (.gd b x)=[]) ∧
 (∀(s:List (Nat×AV)) (h:HP) (k0:Nat) (i f:Nat),back1 s h k0 (.ab i f)=[]) ∧
 (∀(s:List (Nat×AV)) (h:HP) (k0:Nat) (i o n:Nat),back1 s h k0 (.sl i o n)=rH ((hget h i).isSome&&(sget s k0).isSome) [(k0,.sl i o n)]):=
 ⟨fun _ _ _=>rfl,fun _ _ _ _=>rfl,fun _ _ _ _ _=>rfl,fun _ _ _ _ _=>rfl,fun _ _ _ _ _ _=>rfl,fun _ _ _ _=>rfl,fun _ _ _ _=>rfl,fun _ _ _=>rfl,fun _ _ _ _ _=>rfl,fun _ _ _ _=>rfl,fun _ _ _ _ _ _=>rfl,fun _ _ _ _=>rfl,fun _ _ _ _=>rfl,fun _ _ _ _ _=>rfl,fun _ _ _ _ _=>rfl,fun _ _ _ _ _ _=>rfl⟩
theorem EN (st:St) (h:HP) (args:List AE) (h':HP) (as:List AV):gb st h args h' as=⟨backS st.s h' args as++killSI (ea h++ea h') (keepL2 (args.map (ev st)) as) st.s,h'++dropH (ea h++ea h') (keepL2 (args.map (ev st)) as) st.h⟩:=(rfl)
theorem ayp (sz:Nat) (st:St):(∀l,srcE sz st (.str l)=kX (sz==1) (some (l.map ub)) none)∧srcE sz st .al=slE sz st .al∧(∀sz' es,srcE sz st (.ro sz' es)=slE sz st (.ro sz' es))∧(∀id o n,srcE sz st (.sl id o n)=slE sz st (.sl id o n)):=
 ⟨fun l=>by rw[←sY];rfl,rfl,fun _ _=>rfl,fun _ _ _=>rfl⟩
theorem IC (x:AV):bb x=(cellsOf x).all isCell:=(rfl)
theorem axa {α:Type} (l:List α) (k:Nat) (s:List α):dm l k s=l.take k++s++l.drop (k+s.length):=(rfl)
theorem acN:(∀x,packC [x]=x)∧packC []=.agg []∧(∀x y r,packC (x::y::r)=.agg (x::y::r)):=⟨fun _=>rfl,rfl,fun _ _ _=>rfl⟩
theorem afS (γ β:Bool) (x y:AV) :
 (∀p q,pick2 γ β x y (.bool p) (.bool q)=.ok ((γ=true→β=true→aB true x)∧(γ=true→β=false→aB true y)) (.bool (if β then p else q))) ∧
 (∀p,pick2 γ β x y (.bool p) .undef=.ok (γ=true→β=true∧aB true x) (.bool p)) ∧
 (∀q,pick2 γ β x y .undef (.bool q)=.ok (γ=true→β=false∧aB true y) (.bool q)):=⟨fun _ _=>rfl,fun _=>rfl,fun _=>rfl⟩
theorem afT (γ β:Bool) (x y:AV):pickR γ (.bool β) x y=pick2 γ β x y (stripV x) (stripV y):=(rfl)
theorem YG (st:St):(∀id o n,keepR st (.sl id o n)=keepSl st id o n (hget st.h id)) ∧
 (∀b,keepR st (.bool b)=.ok (bM (.bool b)=true∧bb (.bool b)=true) (.bool b) st) ∧
 (∀k n,keepR st (.int k n)=.ok (bM (.int k n)=true∧bb (.int k n)=true) (.int k n) st) ∧
 (∀k n,keepR st (.fl k n)=.ok (bM (.fl k n)=true∧bb (.fl k n)=true) (.fl k n) st) ∧
 (∀k a b,keepR st (.cx k a b)=.ok (bM (.cx k a b)=true∧bb (.cx k a b)=true) (.cx k a b) st) ∧
 (∀l,keepR st (.str l)=.ok (bM (.str l)=true∧bb (.str l)=true) (.str l) st) ∧
 (∀l,keepR st (.lit l)=.ok (bM (.lit l)=true∧bb (.lit l)=true) (.lit l) st) ∧
 (keepR st .al=.ok (bM .al=true∧bb .al=true) .al st) ∧
 (∀sz es,keepR st (.ro sz es)=.ok (bM (.ro sz es)=true∧bb (.ro sz es)=true) (.ro sz es) st) ∧
 (∀x,keepR st (.az x)=.ok (bM (.az x)=true∧bb (.az x)=true) (.az x) st) ∧
 (∀cs,keepR st (.agg cs)=.ok (bM (.agg cs)=true∧bb (.agg cs)=true) (.agg cs) st):=
 ⟨fun _ _ _=>rfl,fun _=>rfl,fun _ _=>rfl,fun _ _=>rfl,fun _ _ _=>rfl,fun _=>rfl,fun _=>rfl,rfl,fun _ _=>rfl,fun _=>rfl,fun _=>rfl⟩
theorem EZ :
 (∀(c:Prop) d v,andR c (.ok d v)=.ok (c∧d) v) ∧
 (∀(c:Prop),andR c (.fail)=.fail):=
 ⟨(fun _ _ _=>rfl),(fun _=>rfl)⟩
theorem UO :
 (∀(γ:Bool) (k:IntKind) (k':IntKind) (x:Int) (y:Int),intR γ (.shl) k k' x y=.ok (γ=true→0≤y) (.int k (k.wrap (x*2^(min y.toNat k.bits))))) ∧
 (∀(γ:Bool) (k:IntKind) (k':IntKind) (x:Int) (y:Int),intR γ (.shr) k k' x y=.ok (γ=true→0≤y) (.int k (x.fdiv (2^(min y.toNat k.bits))))) ∧
 (∀(γ:Bool) (k:IntKind) (k':IntKind) (x:Int) (y:Int),intR γ (.add) k k' x y=.ok (k=k') (.int k (k.wrap (x+y)))) ∧
 (∀(γ:Bool) (k:IntKind) (k':IntKind) (x:Int) (y:Int),intR γ (.sub) k k' x y=.ok (k=k') (.int k (k.wrap (x-y)))) ∧
 (∀(γ:Bool) (k:IntKind) (k':IntKind) (x:Int) (y:Int),intR γ (.mul) k k' x y=.ok (k=k') (.int k (k.wrap (x*y)))) ∧
 (∀(γ:Bool) (k:IntKind) (k':IntKind) (x:Int) (y:Int),intR γ (.quo) k k' x y=.ok (k=k'∧(γ=true→y≠0)) (.int k (k.wrap (x.tdiv y)))) ∧
 (∀(γ:Bool) (k:IntKind) (k':IntKind) (x:Int) (y:Int),intR γ (.rem) k k' x y=.ok (k=k'∧(γ=true→y≠0)) (.int k (x.tmod y))) ∧
 (∀(γ:Bool) (k:IntKind) (k':IntKind) (x:Int) (y:Int),intR γ (.and) k k' x y=.ok (k=k') (.int k (bits .and k x y))) ∧
 (∀(γ:Bool) (k:IntKind) (k':IntKind) (x:Int) (y:Int),intR γ (.or) k k' x y=.ok (k=k') (.int k (bits .or k x y))) ∧
 (∀(γ:Bool) (k:IntKind) (k':IntKind) (x:Int) (y:Int),intR γ (.xor) k k' x y=.ok (k=k') (.int k (bits .xor k x y))) ∧
 (∀(γ:Bool) (k:IntKind) (k':IntKind) (x:Int) (y:Int),intR γ (.andNot) k k' x y=.ok (k=k') (.int k (bits .andNot k x y))) ∧
 (∀(γ:Bool) (k:IntKind) (k':IntKind) (x:Int) (y:Int),intR γ (.eql) k k' x y=.ok (k=k') (.bool (decide (x=y)))) ∧
 (∀(γ:Bool) (k:IntKind) (k':IntKind) (x:Int) (y:Int),intR γ (.neq) k k' x y=.ok (k=k') (.bool (!decide (x=y)))) ∧
 (∀(γ:Bool) (k:IntKind) (k':IntKind) (x:Int) (y:Int),intR γ (.lss) k k' x y=.ok (k=k') (.bool (decide (x<y)))) ∧
 (∀(γ:Bool) (k:IntKind) (k':IntKind) (x:Int) (y:Int),intR γ (.leq) k k' x y=.ok (k=k') (.bool (decide (x≤y)))) ∧
 (∀(γ:Bool) (k:IntKind) (k':IntKind) (x:Int) (y:Int),intR γ (.gtr) k k' x y=.ok (k=k') (.bool (decide (y<x)))) ∧
 (∀(γ:Bool) (k:IntKind) (k':IntKind) (x:Int) (y:Int),intR γ (.geq) k k' x y=.ok (k=k') (.bool (decide (y≤x)))):=
 ⟨(fun _ _ _ _ _=>rfl),(fun _ _ _ _ _=>rfl),(fun _ _ _ _ _=>rfl),(fun _ _ _ _ _=>rfl),(fun _ _ _ _ _=>rfl),(fun _ _ _ _ _=>rfl),(fun _ _ _ _ _=>rfl),(fun _ _ _ _ _=>rfl),(fun _ _ _ _ _=>rfl),(fun _ _ _ _ _=>rfl),(fun _ _ _ _ _=>rfl),(fun _ _ _ _ _=>rfl),(fun _ _ _ _ _=>rfl),(fun _ _ _ _ _=>rfl),(fun _ _ _ _ _=>rfl),(fun _ _ _ _ _=>rfl),(fun _ _ _ _ _=>rfl)⟩
theorem ayN :
 (∀(γ:Bool) (x:List UInt8) (y:List UInt8),js γ (.add) x y=.ok (γ=true→x.length+y.length≤9223372036854775807) (.str (x++y))) ∧
 (∀(γ:Bool) (x:List UInt8) (y:List UInt8),js γ (.eql) x y=.ok True (.bool (x==y))) ∧
 (∀(γ:Bool) (x:List UInt8) (y:List UInt8),js γ (.neq) x y=.ok True (.bool (!(x==y)))) ∧
 (∀(γ:Bool) (x:List UInt8) (y:List UInt8),js γ (.lss) x y=.ok True (.bool (Op.bytesLess x y))) ∧
 (∀(γ:Bool) (x:List UInt8) (y:List UInt8),js γ (.leq) x y=.ok True (.bool (Op.bytesLess x y||x==y))) ∧
 (∀(γ:Bool) (x:List UInt8) (y:List UInt8),js γ (.gtr) x y=.ok True (.bool (!(Op.bytesLess x y||x==y)))) ∧
 (∀(γ:Bool) (x:List UInt8) (y:List UInt8),js γ (.geq) x y=.ok True (.bool (!Op.bytesLess x y))):=
 ⟨(fun _ _ _=>rfl),(fun _ _ _=>rfl),(fun _ _ _=>rfl),(fun _ _ _=>rfl),(fun _ _ _=>rfl),(fun _ _ _=>rfl),(fun _ _ _=>rfl)⟩
theorem Ha :
 (∀(γ:Bool) (op:BinOp) k a k' b,binR γ op (.int k a) (.int k' b)=intR γ op k k' a b) ∧
 (∀(γ:Bool) (op:BinOp) a b,binR γ op (.str a) (.str b)=js γ op a b) ∧
 (∀(γ:Bool) (op:BinOp) k a k' b,binR γ op (.fl k a) (.fl k' b)=sB op k k' a b) ∧
 (∀(γ:Bool) (op:BinOp) k a b k' c d,binR γ op (.cx k a b) (.cx k' c d)=r4 op k k' a b c d):=
 ⟨(fun _ _ _ _ _ _=>rfl),(fun _ _ _ _=>rfl),(fun _ _ _ _ _ _=>rfl),(fun _ _ _ _ _ _ _ _=>rfl)⟩
theorem GL :
 (∀(neg:Bool) a b,beqR neg (.bool a) (.bool b)=.ok True (.bool (if neg then !(a==b)else a==b))):=
 (fun _ _ _=>rfl)
theorem MV :
 (∀a b,eqOK 0 (.bool a) (.bool b)=true)∧(∀k a k' b,eqOK 1 (.int k a) (.int k' b)=(k==k'))∧(∀a b,eqOK 2 (.str a) (.str b)=true):=⟨(fun _ _=>rfl),(fun _ _ _ _=>rfl),(fun _ _=>rfl)⟩
theorem MS :
 (∀a b,eqC (.bool a) (.bool b)=(a==b))∧(∀k a k' b,eqC (.int k a) (.int k' b)=decide (a=b))∧(∀a b,eqC (.str a) (.str b)=(a==b)):=⟨(fun _ _=>rfl),(fun _ _ _ _=>rfl),(fun _ _=>rfl)⟩
theorem Ug (k:IntKind):(k==k)=true:=by cases k<;>decide
theorem MX:eqOKs [] [] []=true:=(rfl)
theorem MW (k:Nat) (ks:List Nat) (c:AV) (cs:List AV) (d:AV) (ds:List AV):eqOKs (k::ks) (c::cs) (d::ds)=(eqOK k c d&&eqOKs ks cs ds):=(rfl)
theorem MU:eqCs [] []=true:=(rfl)
theorem MT (c:AV) (cs:List AV) (d:AV) (ds:List AV):eqCs (c::cs) (d::ds)=(eqC c d&&eqCs cs ds):=(rfl)
theorem EK (γ neg:Bool) (ks:List Nat) (cs ds:List AV):aeqR γ neg ks (.agg cs) (.agg ds)=.ok (γ=true→eqOKs ks cs ds=true) (.bool (if neg then !(eqCs cs ds)else eqCs cs ds)):=(rfl)
theorem FE (γ:Bool) (st:St) (neg:Bool) (ks:List Nat) (x y:AE):avalR γ st (.lS neg ks x y)=andR (aB γ (ev st x)) (andR (aB γ (ev st y)) (aeqR γ neg ks (stripV (ev st x)) (stripV (ev st y)))):=(rfl)
theorem azI :
 (∀b,unR (.not) (.bool b)=.ok True (.bool (!b))) ∧
 (∀k n,unR (.neg) (.int k n)=.ok True (.int k (k.wrap (0-n)))) ∧
 (∀k n,unR (.xor) (.int k n)=.ok True (.int k (bits .xor k (if k.signed then -1 else k.max) n))):=
 ⟨(fun _=>rfl),(fun _ _=>rfl),(fun _ _=>rfl)⟩
theorem JP :
 (∀(k:IntKind) u1 n,cviR k (.int u1 n)=.ok True (.int k (k.wrap n))):=
 (fun _ _ _=>rfl)
theorem Il :
 (∀(γ:Bool) es,btsR γ (some es)=.ok (γ=true→gf es=true) (.str (bytesOf es))) ∧
 (∀(γ:Bool),btsR γ (none)=.fail):=
 ⟨(fun _ _=>rfl),(fun _=>rfl)⟩
theorem Z2 :
 (∀l,lenR (true) (.str l)=.ok True (.int .i64 l.length)) ∧
 (∀u1 es,lenR (false) (.ro u1 es)=.ok True (.int .i64 es.length)) ∧
 (∀u1 u2 n,lenR (false) (.sl u1 u2 n)=.ok True (.int .i64 n)) ∧
 (lenR (false) (.al)=.ok True (.int .i64 0)):=
 ⟨(fun _=>rfl),(fun _ _=>rfl),(fun _ _ _=>rfl),rfl⟩
theorem abb :
 (∀(mx:Bool) k a u1 b,mmR mx (.int k a) (.int u1 b)=.ok True (.int k (if mx then(if b > a then b else a)else(if b<a then b else a)))):=
 (fun _ _ _ _ _=>rfl)
theorem M1 :
 (∀(i:Nat) vs,extR (.ak vs) i=.ok (i<vs.length) (vs.getD i .undef)):=
 (fun _ _=>rfl)
theorem abq :
 (∀e,nilcR (.az e)=.ok True (.az e)) ∧
 (∀id f,nilcR (.ab id f)=.ok True (.ab id f)):=
 ⟨(fun _=>rfl),(fun _ _=>rfl)⟩
theorem TF :
 (∀(γ:Bool) (sz:Nat) (id:Nat) (off:Nat) (n:Nat) (i:Int) sz' u1,idxW γ sz (some (.arr sz' u1)) id off n i=.ok ((γ=true→0≤i∧i<n)∧0<sz∧sz'=sz) (.ptr id (off+i.toNat) 0)):=
 (fun _ _ _ _ _ _ _ _=>rfl)
theorem TC :
 (∀(γ:Bool) (st:St) (sz:Nat) sz' es u1 i,idxR γ st sz (.ro sz' es) (.int u1 i)=.ok ((γ=true→0≤i∧i<es.length)∧0<sz∧sz'=sz) (.az (nth es i.toNat))) ∧
 (∀(γ:Bool) (st:St) (sz:Nat) id off n u1 i,idxR γ st sz (.sl id off n) (.int u1 i)=idxW γ sz (hget st.h id) id off n i):=
 ⟨(fun _ _ _ _ _ _ _=>rfl),(fun _ _ _ _ _ _ _ _=>rfl)⟩
theorem axu :
 (∀(γ:Bool) l u1 i,sidxR γ (.str l) (.int u1 i)=.ok (γ=true→0≤i∧i<l.length) (.int .u8 (l.getD i.toNat 0).toNat)):=
 (fun _ _ _ _=>rfl)
theorem ZS :
 (∀(γ:Bool) (n:Nat) (cs:List AV),ldcR γ (true) n cs=.ok (γ=true→n≤cs.length) (.agg (cs.take n))) ∧
 (∀(γ:Bool) (n:Nat) (cs:List AV),ldcR γ (false) n cs=.ok (γ=true→0<cs.length) (cs.getD 0 .undef)):=
 ⟨(fun _ _ _=>rfl),(fun _ _ _=>rfl)⟩
theorem ZM :
 (∀(γ:Bool) (ag:Bool) (n:Nat) (i:Nat) (f:Nat) u1 es,pY γ ag n i f (some (.arr u1 es))=ldcR γ ag n ((cellsOf (nth es i)).drop f)):=
 (fun _ _ _ _ _ _ _=>rfl)
theorem ZR :
 (∀(γ:Bool) (ag:Bool) (n:Nat) (f:Nat) cs,ldV γ ag n f (some (.var cs))=ldcR γ ag n (cs.drop f)):=
 (fun _ _ _ _ _=>rfl)
theorem ZQ :
 (∀(γ:Bool) (st:St) (ag:Bool) (n:Nat) e,ldR γ st ag n (.az e)=ldcR γ ag n (cellsOf e)) ∧
 (∀(γ:Bool) (st:St) (ag:Bool) (n:Nat) id i f,ldR γ st ag n (.ptr id i f)=pY γ ag n i f (hget st.h id)) ∧
 (∀(γ:Bool) (st:St) (ag:Bool) (n:Nat) id f,ldR γ st ag n (.ab id f)=ldV γ ag n f (hget st.h id)):=
 ⟨(fun _ _ _ _ _=>rfl),(fun _ _ _ _ _ _ _=>rfl),(fun _ _ _ _ _ _=>rfl)⟩
theorem Gf :
 (∀(γ:Bool) (n:Nat) (c:Prop) u1 l,oE γ n c (.int u1 l)=.ok (c∧(γ=true→0≤l∧l≤n)) l.toNat n):=
 (fun _ _ _ _ _=>rfl)
theorem Gg :
 (∀(γ:Bool) (n:Nat) (c:Prop) u1 h,oG γ n c (.int u1 h)=.ok (c∧(γ=true→0≤h∧h≤n)) 0 h.toNat):=
 (fun _ _ _ _ _=>rfl)
theorem Gh :
 (∀(γ:Bool) (n:Nat) (c:Prop) (c':Prop) u1 l u2 h,oH γ n c c' (.int u1 l) (.int u2 h)=.ok (c∧c'∧(γ=true→0≤l∧l≤h∧h≤n)) l.toNat h.toNat):=
 (fun _ _ _ _ _ _ _ _=>rfl)
theorem HW :
 (∀(γ:Bool) (st:St) (n:Nat),bndR γ st n (none) (none)=.ok True 0 n) ∧
 (∀(γ:Bool) (st:St) (n:Nat) l,bndR γ st n (some l) (none)=oE γ n (aB γ (ev st l)) (stripV (ev st l))) ∧
 (∀(γ:Bool) (st:St) (n:Nat) h,bndR γ st n (none) (some h)=oG γ n (aB γ (ev st h)) (stripV (ev st h))) ∧
 (∀(γ:Bool) (st:St) (n:Nat) l h,bndR γ st n (some l) (some h)=oH γ n (aB γ (ev st l)) (aB γ (ev st h)) (stripV (ev st l)) (stripV (ev st h))):=
 ⟨(fun _ _ _=>rfl),(fun _ _ _ _=>rfl),(fun _ _ _ _=>rfl),(fun _ _ _ _ _=>rfl)⟩
theorem axQ :
 (∀(s:List UInt8) c l h,slcStrR s (.ok c l h)=.ok c (.str ((s.drop l).take (h-l)))) ∧
 (∀(s:List UInt8),slcStrR s (.fail)=.fail):=
 ⟨(fun _ _ _ _=>rfl),(fun _=>rfl)⟩
theorem axO :
 (∀(γ:Bool) (st:St) (lo:Option AE) (hi:Option AE) s,qE γ st lo hi (.str s)=slcStrR s (bndR γ st s.length lo hi)):=
 (fun _ _ _ _ _=>rfl)
theorem axN :
 (∀(sz:Nat) (sz':Nat) (es:List AV) c l h,nR sz sz' es (.ok c l h)=.ok (sz'=sz∧c) (.ro sz (aM es l (h-l)))) ∧
 (∀(sz:Nat) (sz':Nat) (es:List AV),nR sz sz' es (.fail)=.fail):=
 ⟨(fun _ _ _ _ _ _=>rfl),(fun _ _ _=>rfl)⟩
theorem axP :
 (∀(sz:Nat) (id:Nat) (off:Nat) c l h sz' u1,slcSlR sz id off (some (.arr sz' u1)) (.ok c l h)=.ok (c∧sz'=sz) (.sl id (off+l) (h-l))):=
 (fun _ _ _ _ _ _ _ _=>rfl)
theorem axM :
 (∀(γ:Bool) (st:St) (sz:Nat) (lo:Option AE) (hi:Option AE),slcAR γ st sz lo hi (.al)=uA (bndR γ st 0 lo hi)) ∧
 (∀(γ:Bool) (st:St) (sz:Nat) (lo:Option AE) (hi:Option AE) sz' es,slcAR γ st sz lo hi (.ro sz' es)=nR sz sz' es (bndR γ st es.length lo hi)) ∧
 (∀(γ:Bool) (st:St) (sz:Nat) (lo:Option AE) (hi:Option AE) id off n,slcAR γ st sz lo hi (.sl id off n)=slcSlR sz id off (hget st.h id) (bndR γ st n lo hi)):=
 ⟨(fun _ _ _ _ _=>rfl),(fun _ _ _ _ _ _ _=>rfl),(fun _ _ _ _ _ _ _ _=>rfl)⟩
theorem NC :
 (∀(γ:Bool) (off:Nat) (n:Nat) (cs:List AV),pz γ (true) off n cs=.ok ((γ=true→off+n≤cs.length)∧0<n) (.az (.agg ((cs.drop off).take n)))) ∧
 (∀(γ:Bool) (off:Nat) (n:Nat) (cs:List AV),pz γ (false) off n cs=.ok ((γ=true→off+n≤cs.length)∧0<n∧n=1∧isCell (cs.getD off .undef)=true) (.az (cs.getD off .undef))):=
 ⟨(fun _ _ _ _=>rfl),(fun _ _ _ _=>rfl)⟩
theorem NB :
 (∀(γ:Bool) (st:St) (ag:Bool) (off:Nat) (n:Nat) e,kS γ st ag off n (.az e)=pz γ ag off n (cellsOf e)) ∧
 (∀(γ:Bool) (st:St) (ag:Bool) (off:Nat) (n:Nat) id i f,kS γ st ag off n (.ptr id i f)=sE off (hget st.h id) id i f) ∧
 (∀(γ:Bool) (st:St) (ag:Bool) (off:Nat) (n:Nat) id f,kS γ st ag off n (.ab id f)=.ok True (.ab id (f+off))):=
 ⟨(fun _ _ _ _ _ _=>rfl),(fun _ _ _ _ _ _ _ _=>rfl),(fun _ _ _ _ _ _ _=>rfl)⟩
theorem FH :
 (∀(γ:Bool) (st:St) x,avalR γ st (.ah x)=andR (aB γ (ev st x)) (.ok True (stripV (ev st x)))) ∧
 (∀(γ:Bool) (st:St) c x y,avalR γ st (.pick c x y)=andR (aB γ (ev st c)) (pickR γ (stripV (ev st c)) (ev st x) (ev st y))) ∧
 (∀(γ:Bool) (st:St) op x y,avalR γ st (.bin op x y)=andR (aB γ (ev st x)) (andR (aB γ (ev st y)) (binR γ op (stripV (ev st x)) (stripV (ev st y))))) ∧
 (∀(γ:Bool) (st:St) neg x y,avalR γ st (.beq neg x y)=andR (aB γ (ev st x)) (andR (aB γ (ev st y)) (beqR neg (stripV (ev st x)) (stripV (ev st y))))) ∧
 (∀(γ:Bool) (st:St) op x,avalR γ st (.un op x)=andR (aB γ (ev st x)) (unR op (stripV (ev st x)))) ∧
 (∀(γ:Bool) (st:St) k x,avalR γ st (.aV k x)=andR (aB γ (ev st x)) (cviR k (stripV (ev st x)))) ∧
 (∀(γ:Bool) (st:St) k x,avalR γ st (.oW k x)=andR (aB γ (ev st x)) (rV k (stripV (ev st x)))) ∧
 (∀(γ:Bool) (st:St) k x,avalR γ st (.oV k x)=andR (aB γ (ev st x)) (cfiR γ k (stripV (ev st x)))) ∧
 (∀(γ:Bool) (st:St) x,avalR γ st (.o0 x)=andR (aB γ (ev st x)) (cstR (stripV (ev st x)))) ∧
 (∀(γ:Bool) (st:St) x,avalR γ st (.dL x)=andR (aB γ (ev st x)) (btsR γ (slE 1 st (stripV (ev st x))))) ∧
 (∀(γ:Bool) (st:St) x y,avalR γ st (.oX x y)=andR (aB γ (ev st x)) (andR (aB γ (ev st y)) (cplxR (stripV (ev st x)) (stripV (ev st y))))) ∧
 (∀(γ:Bool) (st:St) x,avalR γ st (.re x)=andR (aB γ (ev st x)) (reR (stripV (ev st x)))) ∧
 (∀(γ:Bool) (st:St) x,avalR γ st (.im x)=andR (aB γ (ev st x)) (sZ (stripV (ev st x)))) ∧
 (∀(γ:Bool) (st:St) str x,avalR γ st (.len str x)=andR (aB γ (ev st x)) (lenR str (stripV (ev st x)))) ∧
 (∀(γ:Bool) (st:St) mx x y,avalR γ st (.mm mx x y)=andR (aB γ (ev st x)) (andR (aB γ (ev st y)) (mmR mx (stripV (ev st x)) (stripV (ev st y))))) ∧
 (∀(γ:Bool) (st:St) x i,avalR γ st (.ext x i)=andR (aB γ (ev st x)) (extR (stripV (ev st x)) i)) ∧
 (∀(γ:Bool) (st:St) x,avalR γ st (.ao x)=andR (aB γ (ev st x)) (nilcR (stripV (ev st x)))) ∧
 (∀(γ:Bool) (st:St) sz x i,avalR γ st (.aO sz x i)=andR (aB γ (ev st x)) (andR (aB γ (ev st i)) (idxR γ st sz (stripV (ev st x)) (stripV (ev st i))))) ∧
 (∀(γ:Bool) (st:St) x i,avalR γ st (.bV x i)=andR (aB γ (ev st x)) (andR (aB γ (ev st i)) (sidxR γ (stripV (ev st x)) (stripV (ev st i))))) ∧
 (∀(γ:Bool) (st:St) ag n x,avalR γ st (.ld ag n x)=andR (aB γ (ev st x)) (ldR γ st ag n (stripV (ev st x)))) ∧
 (∀(γ:Bool) (st:St) x lo hi,avalR γ st (.bK x lo hi)=andR (aB γ (ev st x)) (qE γ st lo hi (stripV (ev st x)))) ∧
 (∀(γ:Bool) (st:St) sz x lo hi,avalR γ st (.fI sz x lo hi)=andR (aB γ (ev st x)) (slcAR γ st sz lo hi (stripV (ev st x)))) ∧
 (∀(γ:Bool) (st:St) ag off n x,avalR γ st (.ai ag off n x)=andR (aB γ (ev st x)) (kS γ st ag off n (stripV (ev st x)))) ∧
 (∀(γ:Bool) (st:St) ag off n x,avalR γ st (.py ag off n x)=andR (aB γ (ev st x)) (fldR γ ag off n (stripV (ev st x)))):=
 ⟨(fun _ _ _=>rfl),(fun _ _ _ _ _=>rfl),(fun _ _ _ _ _=>rfl),(fun _ _ _ _ _=>rfl),(fun _ _ _ _=>rfl),(fun _ _ _ _=>rfl),(fun _ _ _ _=>rfl),(fun _ _ _ _=>rfl),(fun _ _ _=>rfl),(fun _ _ _=>rfl),(fun _ _ _ _=>rfl),(fun _ _ _=>rfl),(fun _ _ _=>rfl),(fun _ _ _ _=>rfl),(fun _ _ _ _ _=>rfl),(fun _ _ _ _=>rfl),(fun _ _ _=>rfl),(fun _ _ _ _ _=>rfl),(fun _ _ _ _=>rfl),(fun _ _ _ _ _=>rfl),(fun _ _ _ _ _=>rfl),(fun _ _ _ _ _ _=>rfl),(fun _ _ _ _ _ _=>rfl),(fun _ _ _ _ _ _=>rfl)⟩
theorem Hh (γ:Bool) (st:St) (cs:List AV):bldR γ st [] cs=.ok True (.agg cs):=(rfl)
theorem Hg (γ:Bool) (st:St) (o n:Nat) (x:AE) (r:List (Nat×Nat×AE)) (cs:List AV) :
    bldR γ st ((o,n,x)::r) cs=andR (aB γ (ev st x)) (andR (γ=true→bb (stripV (ev st x))=true∧(cellsOf (stripV (ev st x))).length=n∧o+n≤cs.length) (bldR γ st r (cs.take o++cellsOf (stripV (ev st x))++cs.drop (o+n)))):=(rfl)
theorem FF (γ:Bool) (st:St) (z:List AV) (ps:List (Nat×Nat×AE)):avalR γ st (.dK z ps)=bldR γ st ps z:=(rfl)
theorem FI (γ:Bool) (st:St) (len sz:Nat) (x i:AE):avalR γ st (.eR len sz x i)=andR (aB γ (ev st x)) (andR (aB γ (ev st i)) (idxPR γ len sz (stripV (ev st x)) (stripV (ev st i)))):=(rfl)
theorem FJ (γ:Bool) (st:St) (len:Nat) (x i:AE):avalR γ st (.me len x i)=andR (aB γ (ev st x)) (andR (aB γ (ev st i)) (idxVR γ len (stripV (ev st x)) (stripV (ev st i)))):=(rfl)
theorem FQ (γ:Bool) (st:St) (neg:Bool) (x:AE):avalR γ st (.lB neg x)=andR (aB γ (ev st x)) (snilR γ st neg (stripV (ev st x))):=(rfl)
theorem Ty (γ:Bool) (len sz:Nat) (cs:List AV) (k:IntKind) (i:Int):idxPR γ len sz (.az (.agg cs)) (.int k i)=.ok ((γ=true→0≤i∧i<len∧i<cs.length)∧sz=1∧isCell (cs.getD i.toNat .undef)=true) (.az (cs.getD i.toNat .undef)):=(rfl)
theorem Tz (γ:Bool) (len sz id f:Nat) (k:IntKind) (i:Int):idxPR γ len sz (.ab id f) (.int k i)=.ok (γ=true→0≤i∧i<len) (.ab id (f+i.toNat*sz)):=(rfl)
theorem TE (γ:Bool) (len:Nat) (cs:List AV) (k:IntKind) (i:Int):idxVR γ len (.agg cs) (.int k i)=.ok (γ=true→0≤i∧i<len∧i<cs.length) (cs.getD i.toNat .undef):=(rfl)
theorem aya (γ neg:Bool) (n sz:Nat) (es:List AV):qF γ neg n (some (.arr sz es))=.ok (γ=true→0<n) (.bool neg):=(rfl)
theorem FK (γ:Bool) (st:St) (neg:Bool) (x:AE):avalR γ st (.nt neg x)=andR (aB γ (ev st x)) (inilR γ neg (stripV (ev st x))):=(rfl)
theorem FM (γ:Bool) (st:St) (t:TypeId) (x:AE):avalR γ st (.gX t x)=andR (aB γ (ev st x)) (mkiR t (stripV (ev st x))):=(rfl)
theorem FG (γ:Bool) (st:St) (x:AE):avalR γ st (.o4 x)=andR (aB γ (ev st x)) (o5 (stripV (ev st x))):=(rfl)
def k8 (st:St):List AE→List AV
 | []=>[]
 | x::r=>ev st x::k8 st r
theorem zE (st:St):∀l,l.map (ev st)=k8 st l
 | []=>rfl
 | x::r=>by rw[List.map_cons,zE st r];rfl
theorem aaS (st:St):k8 st []=[]∧(∀x r,k8 st (x::r)=ev st x::k8 st r):=⟨rfl,fun _ _=>rfl⟩
theorem aAs:lK []=true∧(∀i f r,lK (.ab i f::r)=lK r):=⟨rfl,fun _ _ _=>rfl⟩
theorem FL (γ:Bool) (st:St) (f:Nat) (xs:List AE):avalR γ st (.nw f xs)=.ok (lK (k8 st xs)=true) (.aR f (k8 st xs)):=by rw[←zE];rfl
theorem Yv (f:Nat) (cs:List AV) (a:AV):keep1 (.aR f cs) a=[]:=(rfl)
theorem Yx (p f g:Nat) (cs:List AV):keep1 (.ab p f) (.aR g cs)=[]:=(rfl)
theorem Gl (s:List (Nat×AV)) (h:HP) (k0 f:Nat) (cs:List AV):back1 s h k0 (.aR f cs)=[]:=(rfl)
theorem JQ (k:IntKind) (n:Int):o5 (.int k n)=.ok True (.str (Utf8.encode n).data.toList):=(rfl)
theorem aa1 (t:TypeId):mkiR t (.agg [])=.ok True (.lit (.iface t (.agg #[]))):=(rfl)
theorem aa0 (t:TypeId) (k:IntKind) (n:Int):mkiR t (.int k n)=.ok True (.lit (.iface t (.int k n))):=(rfl)
theorem aa3 (id:Nat) (st:St) (sz bytes:Nat) (z:List AV) (n m:Int):mksR id st sz bytes z (.int .i64 n) (.int .i64 m)=.ok (0≤n∧m=n∧n≤16777216∧n*bytes≤16777216∧z.all noRefC=true∧z.length=sz) (.sl id 0 n.toNat) (cf st id (.arr sz (List.replicate n.toNat (packC z)))):=(rfl)
theorem UL (γ neg:Bool):inilR γ neg (.lit .nilIface)=.ok True (.bool (if neg then false else true)):=by cases neg<;>simp[inilR,isNilV,isIfV]
theorem UK (γ neg:Bool) (t:TypeId) (v:Value):inilR γ neg (.lit (.iface t v))=.ok True (.bool (if neg then true else false)):=by cases neg<;>simp[inilR,isNilV,isIfV]
theorem FP (γ:Bool) (st:St) kd ok z (x i:AE):avalR γ st (.la kd ok z x i)=andR (aB γ (ev st x)) (andR (aB γ (ev st i)) (mlkR st kd ok z (stripV (ev st x)) (stripV (ev st i)))):=(rfl)
theorem aaZ (l:List UInt8):mkOf (.str l)=some (.s l):=(rfl)
theorem aaY (k:IntKind) (n:Int):mkOf (.int k n)=some (.i k n):=(rfl)
theorem aa7 (st:St) kd ok z id i f (x:AV):mlkR st kd ok z (.ptr id i f) x=mlkK st kd ok z id (mkOf x):=(rfl)
theorem aa5 (st:St) kd ok z id k:mlkK st kd ok z id (some k)=mlkW kd ok z k (hget st.h id):=(rfl)
theorem aa8 kd ok z k kd' (l:List (MK×AV)):mlkW kd ok z k (some (.mp kd' l))=.ok (kd'=kd∧MK.ok kd k) (ny ok z (mfind l k)):=(rfl)
theorem abe (z:AV) (o:Option AV):ny true z o=.ak [o.getD z,.bool o.isSome]:=(rfl)
theorem abd (z:AV) (o:Option AV):ny false z o=o.getD z:=(rfl)
theorem D8 (b:List UInt8):MK.ok none (.s b)=True:=(rfl)
theorem D7 (k k':IntKind) (n:Int):MK.ok (some k) (.i k' n)=(k'=k):=(rfl)
theorem abg (st:St) kd id i f (k v:AV):mupR st kd (.ptr id i f) k v=mupK st id kd (mkOf k) v:=(rfl)
theorem abf (st:St) id kd k (v:AV):mupK st id kd (some k) v=mupW st id kd k v (hget st.h id):=(rfl)
theorem abh (st:St) id kd k (v:AV) kd' (l:List (MK×AV)):mupW st id kd k v (some (.mp kd' l))=.ok (kd'=kd∧MK.ok kd k∧bM v=true) .undef ⟨st.s,cc st.h id (.mp kd (mput l k v))⟩:=(rfl)
theorem Mw (id:Nat) (st:St) kd:effR id st (.kh kd)=.ok True (.ptr id 0 0) (cf st id (.mp kd [])):=(rfl)
theorem Mx (id:Nat) (st:St) kd x k v:effR id st (.lf kd x k v)=mupR st kd (ev st x) (ev st k) (ev st v):=(rfl)
theorem ax9 :
 (∀(γ:Bool) (st:St) (neg:Bool),snilR γ st neg (.al)=.ok True (.bool (!neg))) ∧
 (∀(γ:Bool) (st:St) (neg:Bool) id o n,snilR γ st neg (.sl id o n)=qF γ neg n (hget st.h id)) ∧
 (∀(γ:Bool) (st:St) (neg:Bool) sz es,snilR γ st neg (.ro sz es)=.ok (γ=true→0<es.length∧0<sz) (.bool neg)):=
 ⟨(fun _ _ _=>rfl),(fun _ _ _ _ _ _=>rfl),(fun _ _ _ _ _=>rfl)⟩
theorem YH :
 (∀(st:St) (id:Nat) (o:Nat) (n:Nat) sz es,keepSl st id o n (some (.arr sz es))=.ok True (.ro sz (aM es o n)) (freeze st id)):=
 (fun _ _ _ _ _ _=>rfl)
theorem atb :
 (∀(c:Prop) (v:AV) d vs st,rl2 c v (.ok d vs st)=.ok (c∧d) (v::vs) st) ∧
 (∀(c:Prop) (v:AV),rl2 c v (.fail)=.fail):=
 ⟨(fun _ _ _ _ _=>rfl),(fun _ _=>rfl)⟩
theorem ata :
 (∀(r:List AE) c v st1,uh r (.ok c v st1)=rl2 c v (keepLR r st1)) ∧
 (∀(r:List AE),uh r (.fail)=.fail):=
 ⟨(fun _ _ _ _=>rfl),(fun _=>rfl)⟩
theorem Ij :
 (∀(id:Nat) (sz:Nat) c es st',mX id sz (.ok c es st')=.ok (c∧es.all (fun e=>(cellsOf e).length==sz)=true) (.sl id 0 es.length) (cf st' id (.arr sz es))) ∧
 (∀(id:Nat) (sz:Nat),mX id sz (.fail)=.fail):=
 ⟨(fun _ _ _ _ _=>rfl),(fun _ _=>rfl)⟩
theorem Ft :
 (∀(st:St) (sz:Nat) (bytes:Nat) (id:Nat) (off:Nat) (n:Nat) (xs:List AV) sz' es,oz st sz bytes id off n xs (some (.arr sz' es))=.ok (xs.all bb=true∧sz'=sz∧(aM es off n).all bb=true∧(n+xs.length)*bytes≤140737488355328∧n+xs.length≤9223372036854775807) (.sl id 0 (n+xs.length)) (cf st id (.arr sz (aM es off n++xs)))):=
 (fun _ _ _ _ _ _ _ _ _=>rfl)
theorem Fs :
 (∀(d:Nat) (st:St) (sz:Nat) (bytes:Nat) xs,appR d st sz bytes (.al) (some xs)=.ok (xs.all bb=true∧xs.length*bytes≤140737488355328∧xs.length≤9223372036854775807) (.sl d 0 xs.length) (cf st d (.arr sz xs))) ∧
 (∀(d:Nat) (st:St) (sz:Nat) (bytes:Nat) xs id off n,appR d st sz bytes (.sl id off n) (some xs)=oz st sz bytes id off n xs (hget st.h id)):=
 ⟨(fun _ _ _ _ _=>rfl),(fun _ _ _ _ _ _ _ _=>rfl)⟩
theorem ayB :
 (∀(st:St) (n:Nat) (id:Nat) (i:Nat) (f:Nat) (v:AV) sz es,qI st n id i f v (some (.arr sz es))=.ok ((cellsOf v).length=n∧0<n∧f+n≤sz) .undef ⟨st.s,cc st.h id (.arr sz (es.set i (iR (nth es i) f v)))⟩):=
 (fun _ _ _ _ _ _ _ _=>rfl)
theorem ayv :
 (∀(n:Nat) (id:Nat) (i:Nat) (f:Nat) (c:Prop) (v:AV) (st:St) d u st',nV n id i f c v st (.ok d u st')=.ok (c∧d) u st') ∧
 (∀(n:Nat) (id:Nat) (i:Nat) (f:Nat) (c:Prop) (v:AV) (st:St),nV n id i f c v st (.fail)=.fail):=
 ⟨(fun _ _ _ _ _ _ _ _ _ _=>rfl),(fun _ _ _ _ _ _ _=>rfl)⟩
theorem ayw :
 (∀(n:Nat) (id:Nat) (i:Nat) (f:Nat) c v st,nU n id i f (.ok c v st)=nV n id i f c v st (qI st n id i f v (hget st.h id))) ∧
 (∀(n:Nat) (id:Nat) (i:Nat) (f:Nat),nU n id i f (.fail)=.fail):=
 ⟨(fun _ _ _ _ _ _ _=>rfl),(fun _ _ _ _=>rfl)⟩
theorem ayA :
 (∀(st:St) (n:Nat) (id:Nat) (f:Nat) (v:AV) cs,stV st n id f v (some (.var cs))=.ok (bb v=true∧(cellsOf v).length=n∧f+n≤cs.length) .undef ⟨st.s,cc st.h id (.var (dm cs f (cellsOf v)))⟩):=
 (fun _ _ _ _ _ _=>rfl)
theorem ayy :
 (∀(st:St) (n:Nat) (v:AV) id i f,stR st n (.ptr id i f) v=nU n id i f (keepR st v)) ∧
 (∀(st:St) (n:Nat) (v:AV) id f,stR st n (.ab id f) v=stV st n id f v (hget st.h id)):=
 ⟨(fun _ _ _ _ _ _=>rfl),(fun _ _ _ _ _=>rfl)⟩
theorem ayG :
 (∀(st:St) (id:Nat) l,stbR st id (.str l)=.ok True (.sl id 0 l.length) (cf st id (.arr 1 (l.map ub)))):=
 (fun _ _ _=>rfl)
theorem Mu :
 (∀(id:Nat) (st:St) z,effR id st (.alloc z)=.ok (z.all noRefC=true) (.ab id 0) (cf st id (.var (z.map (killC id))))) ∧
 (∀(id:Nat) (st:St) n x,effR id st (.box n x)=.ok (bb (ev st x)=true∧(cellsOf (ev st x)).length=n) (.ab id 0) (cf st id (.var ((cellsOf (ev st x)).map (killC id))))) ∧
 (∀(id:Nat) (st:St) sz xs,effR id st (.aW sz xs)=mX id sz (keepLR xs st)) ∧
 (∀(id:Nat) (st:St) sz bytes s x,effR id st (.app sz bytes s x)=appR id st sz bytes (ev st s) (srcE sz st (ev st x))) ∧
 (∀(id:Nat) (st:St) n x v,effR id st (.st n x v)=stR st n (ev st x) (ev st v)) ∧
 (∀(id:Nat) (st:St) sz b z l c,effR id st (.ki sz b z l c)=mksR id st sz b z (ev st l) (ev st c)) ∧
 (∀(id:Nat) (st:St) x,effR id st (.lC x)=stbR st id (ev st x)):=
 ⟨(fun _ _ _=>rfl),(fun _ _ _ _=>rfl),(fun _ _ _ _=>rfl),(fun _ _ _ _ _ _=>rfl),(fun _ _ _ _ _=>rfl),(fun _ _ _ _ _ _ _=>rfl),(fun _ _ _=>rfl)⟩
attribute [go_sem] FP aaZ aaY aa7 aa5 aa8 abe abd D8 D7 abg abf abh Mw Mx Option.isSome_some Option.isSome_none Option.getD_some Option.getD_none aaS aAs FL Yv Yx Gl M0 agL OI abo YQ Oo asb Yt Uw Ns Uu Nq abl abI asa ar9 ayz ayu ayt TH TG axK Yr Yy Yz YA Yw Gr Gn Gq Gm EN ayp axJ IC axa acN afS afT YG EZ UO ayN Ha GL MV Ug MS MX MW MU MT EK FE azI JP Il Z2 abb M1 abq TF TC axu ZS ZM ZR ZQ Gf Gg Gh HW axQ axO axN axP axM NC NB FH Hh Hg FF FI FJ FQ Tz Ty TE aya ax9 FK UL UK FM aa1 aa0 aa3 FG JQ YH atb ata Ij Ft Fs ayB ayv ayw ayA ayy ayG Mu JO JN axd axc Ia YE YD Ib YJ YI YR Oh Og Oq ar8 asc Yu Ys Ig GK Ic abr Wy abt Nn NJ Ut Us Uv ayP ayO
end Go.Proofs.YtjoefngnjoofeaaGreatDoor.Eng
