/- The proof, part 7 of 43. -/
import Derived.Test.YtoalcafkffmiiaaGreatDoorOdbGetsF
set_option linter.all false
namespace Go.Proofs.YtoalcafkffmiiaaGreatDoor.Eng
def cu (b:Bool) (x:AV):AV:=match b with
 | true=>.undef
 | false=>x
def kY (b:Bool) (x y:AV):AV:=match b with
 | true=>x
 | false=>y
theorem iC {i j:Nat} {x:AV}:(if i=j then AV.undef else x)=cu (i==j) x:=by
 by_cases h:i=j
 ·subst h;rw[if_pos rfl,show(i==i)=true by simp];rfl
 ·rw[if_neg h,show(i==j)=false by simp[h]];rfl
theorem xv {i j:Nat} {x y:AV}:(if i=j then x else y)=kY (i==j) x y:=by
 by_cases h:i=j
 ·subst h;rw[if_pos rfl,show(i==i)=true by simp];rfl
 ·rw[if_neg h,show(i==j)=false by simp[h]];rfl
theorem lB {b:Bool} {x:AV}:(if b=true then AV.undef else x)=cu b x:=by cases b<;>rfl
theorem xw {b:Bool} {x y:AV}:(if b=true then x else y)=kY b x y:=by cases b<;>rfl
theorem Lj {x:AV}:cu true x=.undef:=(rfl)
theorem Li {x:AV}:cu false x=x:=(rfl)
theorem Zj {x y:AV}:kY true x y=x:=(rfl)
theorem Zi {x y:AV}:kY false x y=y:=(rfl)
def borSl (W:Option aG) (o n:Nat):AV:=match W with
 | some (.arr sz es)=>.ro sz (aB es o n)
 | _=>.undef
theorem JY {sz o n:Nat} {es:List AV}:borSl (some (.arr sz es)) o n=.ro sz (aB es o n):=(rfl)
def keepO (W:Option aG) (x y:AV):AV:=match W with
 | some _=>x
 | none=>y
theorem QE {W:aG} {x y:AV}:keepO (some W) x y=x:=(rfl)
theorem QD {x y:AV}:keepO none x y=y:=(rfl)
def borV (h0 h:HP) (W:Option aG) (f:Nat):AV:=match W,f with
 | some (.var cs),0=>.aq (packC (cs.map (bcell h0 h)))
 | _,_=>.undef
theorem JZ {h0 h:HP} {cs:List AV}:borV h0 h (some (.var cs)) 0=.aq (packC (cs.map (bcell h0 h))):=(rfl)
theorem QJ (id:Nat) :
 (killC id AV.undef=AV.undef) /\
 (∀(b:Bool),killC id (.bool b)=(.bool b)) /\
 (∀(k:IntKind) (n:Int),killC id (.int k n)=(.int k n)) /\
 (∀(k:FloatKind) (n:Nat),killC id (.fl k n)=(.fl k n)) /\
 (∀(k:FloatKind) (a b:Nat),killC id (.cx k a b)=(.cx k a b)) /\
 (∀(l:List UInt8),killC id (.str l)=(.str l)) /\
 (∀(x:Value),killC id (.lit x)=(.lit x)) /\
 (killC id AV.al=AV.al) /\
 (∀(sz0:Nat) (es0:List AV),killC id (.ro sz0 es0)=(.ro sz0 es0)) /\
 (∀(x:AV),killC id (.aq x)=(.aq x)) /\
 (∀(i o n:Nat),killC id (.sl i o n)=cu (i==id) (.sl i o n)) /\
 (∀(i j f:Nat),killC id (.ptr i j f)=cu (i==id) (.ptr i j f)) /\
 (∀(i f:Nat),killC id (.aa i f)=cu (i==id) (.aa i f)) /\
 (∀(cs:List AV),killC id (.agg cs)=AV.undef) /\
 (∀(cs:List AV),killC id (.af cs)=AV.undef) /\
 (∀(b:Bool) (x:AV),killC id (.gd b x)=AV.undef) /\
 (∀(f:Nat) (cs:List AV),killC id (.aK f cs)=AV.undef):=
 ⟨rfl,λ_=>rfl,λ_ _=>rfl,λ_ _=>rfl,λ_ _ _=>rfl,λ_=>rfl,λ_=>rfl,rfl,λ_ _=>rfl,λ_=>rfl,λ_ _ _=>iC,λ_ _ _=>iC,λ_ _=>iC,λ_=>rfl,λ_=>rfl,λ_ _=>rfl,λ_ _=>rfl⟩
theorem QI (id:Nat) :
 (killA id AV.undef=AV.undef) /\
 (∀(b:Bool),killA id (.bool b)=(.bool b)) /\
 (∀(k:IntKind) (n:Int),killA id (.int k n)=(.int k n)) /\
 (∀(k:FloatKind) (n:Nat),killA id (.fl k n)=(.fl k n)) /\
 (∀(k:FloatKind) (a b:Nat),killA id (.cx k a b)=(.cx k a b)) /\
 (∀(l:List UInt8),killA id (.str l)=(.str l)) /\
 (∀(x:Value),killA id (.lit x)=(.lit x)) /\
 (killA id AV.al=AV.al) /\
 (∀(sz0:Nat) (es0:List AV),killA id (.ro sz0 es0)=(.ro sz0 es0)) /\
 (∀(x:AV),killA id (.aq x)=(.aq x)) /\
 (∀(i o n:Nat),killA id (.sl i o n)=cu (i==id) (.sl i o n)) /\
 (∀(i j f:Nat),killA id (.ptr i j f)=cu (i==id) (.ptr i j f)) /\
 (∀(i f:Nat),killA id (.aa i f)=cu (i==id) (.aa i f)) /\
 (∀(cs:List AV),killA id (.agg cs)=.agg (cs.map (killC id))) /\
 (∀(cs:List AV),killA id (.af cs)=AV.undef) /\
 (∀(b:Bool) (x:AV),killA id (.gd b x)=AV.undef) /\
 (∀(f:Nat) (cs:List AV),killA id (.aK f cs)=.aK f (cs.map (killC id))):=
 ⟨rfl,λ_=>rfl,λ_ _=>rfl,λ_ _=>rfl,λ_ _ _=>rfl,λ_=>rfl,λ_=>rfl,rfl,λ_ _=>rfl,λ_=>rfl,λ_ _ _=>iC,λ_ _ _=>iC,λ_ _=>iC,λ_=>rfl,λ_=>rfl,λ_ _=>rfl,λ_ _=>rfl⟩
theorem QS (id:Nat) :
 (kill id AV.undef=AV.undef) /\
 (∀(b:Bool),kill id (.bool b)=(.bool b)) /\
 (∀(k:IntKind) (n:Int),kill id (.int k n)=(.int k n)) /\
 (∀(k:FloatKind) (n:Nat),kill id (.fl k n)=(.fl k n)) /\
 (∀(k:FloatKind) (a b:Nat),kill id (.cx k a b)=(.cx k a b)) /\
 (∀(l:List UInt8),kill id (.str l)=(.str l)) /\
 (∀(x:Value),kill id (.lit x)=(.lit x)) /\
 (kill id AV.al=AV.al) /\
 (∀(sz0:Nat) (es0:List AV),kill id (.ro sz0 es0)=(.ro sz0 es0)) /\
 (∀(x:AV),kill id (.aq x)=(.aq x)) /\
 (∀(i o n:Nat),kill id (.sl i o n)=cu (i==id) (.sl i o n)) /\
 (∀(i j f:Nat),kill id (.ptr i j f)=cu (i==id) (.ptr i j f)) /\
 (∀(i f:Nat),kill id (.aa i f)=cu (i==id) (.aa i f)) /\
 (∀(cs:List AV),kill id (.agg cs)=.agg (cs.map (killC id))) /\
 (∀(cs:List AV),kill id (.af cs)=.af (cs.map (killA id))) /\
 (∀(b:Bool) (x:AV),kill id (.gd b x)=.gd b (killA id x)) /\
 (∀(f:Nat) (cs:List AV),kill id (.aK f cs)=.aK f (cs.map (killC id))):=
 ⟨rfl,λ_=>rfl,λ_ _=>rfl,λ_ _=>rfl,λ_ _ _=>rfl,λ_=>rfl,λ_=>rfl,rfl,λ_ _=>rfl,λ_=>rfl,λ_ _ _=>iC,λ_ _ _=>iC,λ_ _=>iC,λ_=>rfl,λ_=>rfl,λ_ _=>rfl,λ_ _=>rfl⟩
theorem N8 (id sz:Nat) (es:List AV) :
 (cy id sz es AV.undef=AV.undef) /\
 (∀(b:Bool),cy id sz es (.bool b)=(.bool b)) /\
 (∀(k:IntKind) (n:Int),cy id sz es (.int k n)=(.int k n)) /\
 (∀(k:FloatKind) (n:Nat),cy id sz es (.fl k n)=(.fl k n)) /\
 (∀(k:FloatKind) (a b:Nat),cy id sz es (.cx k a b)=(.cx k a b)) /\
 (∀(l:List UInt8),cy id sz es (.str l)=(.str l)) /\
 (∀(x:Value),cy id sz es (.lit x)=(.lit x)) /\
 (cy id sz es AV.al=AV.al) /\
 (∀(sz0:Nat) (es0:List AV),cy id sz es (.ro sz0 es0)=(.ro sz0 es0)) /\
 (∀(x:AV),cy id sz es (.aq x)=(.aq x)) /\
 (∀(i o n:Nat),cy id sz es (.sl i o n)=kY (i==id) (.ro sz (aB es o n)) (.sl i o n)) /\
 (∀(i j f:Nat),cy id sz es (.ptr i j f)=cu (i==id) (.ptr i j f)) /\
 (∀(i f:Nat),cy id sz es (.aa i f)=cu (i==id) (.aa i f)) /\
 (∀(cs:List AV),cy id sz es (.agg cs)=AV.undef) /\
 (∀(cs:List AV),cy id sz es (.af cs)=AV.undef) /\
 (∀(b:Bool) (x:AV),cy id sz es (.gd b x)=AV.undef) /\
 (∀(f:Nat) (cs:List AV),cy id sz es (.aK f cs)=AV.undef):=
 ⟨rfl,λ_=>rfl,λ_ _=>rfl,λ_ _=>rfl,λ_ _ _=>rfl,λ_=>rfl,λ_=>rfl,rfl,λ_ _=>rfl,λ_=>rfl,λ_ _ _=>xv,λ_ _ _=>iC,λ_ _=>iC,λ_=>rfl,λ_=>rfl,λ_ _=>rfl,λ_ _=>rfl⟩
theorem N7 (id sz:Nat) (es:List AV) :
 (dz id sz es AV.undef=AV.undef) /\
 (∀(b:Bool),dz id sz es (.bool b)=(.bool b)) /\
 (∀(k:IntKind) (n:Int),dz id sz es (.int k n)=(.int k n)) /\
 (∀(k:FloatKind) (n:Nat),dz id sz es (.fl k n)=(.fl k n)) /\
 (∀(k:FloatKind) (a b:Nat),dz id sz es (.cx k a b)=(.cx k a b)) /\
 (∀(l:List UInt8),dz id sz es (.str l)=(.str l)) /\
 (∀(x:Value),dz id sz es (.lit x)=(.lit x)) /\
 (dz id sz es AV.al=AV.al) /\
 (∀(sz0:Nat) (es0:List AV),dz id sz es (.ro sz0 es0)=(.ro sz0 es0)) /\
 (∀(x:AV),dz id sz es (.aq x)=(.aq x)) /\
 (∀(i o n:Nat),dz id sz es (.sl i o n)=kY (i==id) (.ro sz (aB es o n)) (.sl i o n)) /\
 (∀(i j f:Nat),dz id sz es (.ptr i j f)=cu (i==id) (.ptr i j f)) /\
 (∀(i f:Nat),dz id sz es (.aa i f)=cu (i==id) (.aa i f)) /\
 (∀(cs:List AV),dz id sz es (.agg cs)=.agg (cs.map (cy id sz es))) /\
 (∀(cs:List AV),dz id sz es (.af cs)=AV.undef) /\
 (∀(b:Bool) (x:AV),dz id sz es (.gd b x)=AV.undef) /\
 (∀(f:Nat) (cs:List AV),dz id sz es (.aK f cs)=.aK f (cs.map (cy id sz es))):=
 ⟨rfl,λ_=>rfl,λ_ _=>rfl,λ_ _=>rfl,λ_ _ _=>rfl,λ_=>rfl,λ_=>rfl,rfl,λ_ _=>rfl,λ_=>rfl,λ_ _ _=>xv,λ_ _ _=>iC,λ_ _=>iC,λ_=>rfl,λ_=>rfl,λ_ _=>rfl,λ_ _=>rfl⟩
theorem Oh (id sz:Nat) (es:List AV) :
 (bj id sz es AV.undef=AV.undef) /\
 (∀(b:Bool),bj id sz es (.bool b)=(.bool b)) /\
 (∀(k:IntKind) (n:Int),bj id sz es (.int k n)=(.int k n)) /\
 (∀(k:FloatKind) (n:Nat),bj id sz es (.fl k n)=(.fl k n)) /\
 (∀(k:FloatKind) (a b:Nat),bj id sz es (.cx k a b)=(.cx k a b)) /\
 (∀(l:List UInt8),bj id sz es (.str l)=(.str l)) /\
 (∀(x:Value),bj id sz es (.lit x)=(.lit x)) /\
 (bj id sz es AV.al=AV.al) /\
 (∀(sz0:Nat) (es0:List AV),bj id sz es (.ro sz0 es0)=(.ro sz0 es0)) /\
 (∀(x:AV),bj id sz es (.aq x)=(.aq x)) /\
 (∀(i o n:Nat),bj id sz es (.sl i o n)=kY (i==id) (.ro sz (aB es o n)) (.sl i o n)) /\
 (∀(i j f:Nat),bj id sz es (.ptr i j f)=cu (i==id) (.ptr i j f)) /\
 (∀(i f:Nat),bj id sz es (.aa i f)=cu (i==id) (.aa i f)) /\
 (∀(cs:List AV),bj id sz es (.agg cs)=.agg (cs.map (cy id sz es))) /\
 (∀(cs:List AV),bj id sz es (.af cs)=.af (cs.map (dz id sz es))) /\
 (∀(b:Bool) (x:AV),bj id sz es (.gd b x)=.gd b (dz id sz es x)) /\
 (∀(f:Nat) (cs:List AV),bj id sz es (.aK f cs)=.aK f (cs.map (cy id sz es))):=
 ⟨rfl,λ_=>rfl,λ_ _=>rfl,λ_ _=>rfl,λ_ _ _=>rfl,λ_=>rfl,λ_=>rfl,rfl,λ_ _=>rfl,λ_=>rfl,λ_ _ _=>xv,λ_ _ _=>iC,λ_ _=>iC,λ_=>rfl,λ_=>rfl,λ_ _=>rfl,λ_ _=>rfl⟩
theorem XU (id id':Nat) :
 (cD id id' AV.undef=AV.undef) /\
 (∀(b:Bool),cD id id' (.bool b)=(.bool b)) /\
 (∀(k:IntKind) (n:Int),cD id id' (.int k n)=(.int k n)) /\
 (∀(k:FloatKind) (n:Nat),cD id id' (.fl k n)=(.fl k n)) /\
 (∀(k:FloatKind) (a b:Nat),cD id id' (.cx k a b)=(.cx k a b)) /\
 (∀(l:List UInt8),cD id id' (.str l)=(.str l)) /\
 (∀(x:Value),cD id id' (.lit x)=(.lit x)) /\
 (cD id id' AV.al=AV.al) /\
 (∀(sz0:Nat) (es0:List AV),cD id id' (.ro sz0 es0)=(.ro sz0 es0)) /\
 (∀(x:AV),cD id id' (.aq x)=(.aq x)) /\
 (∀(i o n:Nat),cD id id' (.sl i o n)=.sl (rn id id' i) o n) /\
 (∀(i j f:Nat),cD id id' (.ptr i j f)=.ptr (rn id id' i) j f) /\
 (∀(i f:Nat),cD id id' (.aa i f)=.aa (rn id id' i) f) /\
 (∀(cs:List AV),cD id id' (.agg cs)=AV.undef) /\
 (∀(cs:List AV),cD id id' (.af cs)=AV.undef) /\
 (∀(b:Bool) (x:AV),cD id id' (.gd b x)=AV.undef) /\
 (∀(f:Nat) (cs:List AV),cD id id' (.aK f cs)=AV.undef):=
 ⟨rfl,λ_=>rfl,λ_ _=>rfl,λ_ _=>rfl,λ_ _ _=>rfl,λ_=>rfl,λ_=>rfl,rfl,λ_ _=>rfl,λ_=>rfl,λ_ _ _=>rfl,λ_ _ _=>rfl,λ_ _=>rfl,λ_=>rfl,λ_=>rfl,λ_ _=>rfl,λ_ _=>rfl⟩
theorem XT (id id':Nat) :
 (dv id id' AV.undef=AV.undef) /\
 (∀(b:Bool),dv id id' (.bool b)=(.bool b)) /\
 (∀(k:IntKind) (n:Int),dv id id' (.int k n)=(.int k n)) /\
 (∀(k:FloatKind) (n:Nat),dv id id' (.fl k n)=(.fl k n)) /\
 (∀(k:FloatKind) (a b:Nat),dv id id' (.cx k a b)=(.cx k a b)) /\
 (∀(l:List UInt8),dv id id' (.str l)=(.str l)) /\
 (∀(x:Value),dv id id' (.lit x)=(.lit x)) /\
 (dv id id' AV.al=AV.al) /\
 (∀(sz0:Nat) (es0:List AV),dv id id' (.ro sz0 es0)=(.ro sz0 es0)) /\
 (∀(x:AV),dv id id' (.aq x)=(.aq x)) /\
 (∀(i o n:Nat),dv id id' (.sl i o n)=.sl (rn id id' i) o n) /\
 (∀(i j f:Nat),dv id id' (.ptr i j f)=.ptr (rn id id' i) j f) /\
 (∀(i f:Nat),dv id id' (.aa i f)=.aa (rn id id' i) f) /\
 (∀(cs:List AV),dv id id' (.agg cs)=.agg (cs.map (cD id id'))) /\
 (∀(cs:List AV),dv id id' (.af cs)=AV.undef) /\
 (∀(b:Bool) (x:AV),dv id id' (.gd b x)=AV.undef) /\
 (∀(f:Nat) (cs:List AV),dv id id' (.aK f cs)=.aK f (cs.map (cD id id'))):=
 ⟨rfl,λ_=>rfl,λ_ _=>rfl,λ_ _=>rfl,λ_ _ _=>rfl,λ_=>rfl,λ_=>rfl,rfl,λ_ _=>rfl,λ_=>rfl,λ_ _ _=>rfl,λ_ _ _=>rfl,λ_ _=>rfl,λ_=>rfl,λ_=>rfl,λ_ _=>rfl,λ_ _=>rfl⟩
theorem XZ (id id':Nat) :
 (eN id id' AV.undef=AV.undef) /\
 (∀(b:Bool),eN id id' (.bool b)=(.bool b)) /\
 (∀(k:IntKind) (n:Int),eN id id' (.int k n)=(.int k n)) /\
 (∀(k:FloatKind) (n:Nat),eN id id' (.fl k n)=(.fl k n)) /\
 (∀(k:FloatKind) (a b:Nat),eN id id' (.cx k a b)=(.cx k a b)) /\
 (∀(l:List UInt8),eN id id' (.str l)=(.str l)) /\
 (∀(x:Value),eN id id' (.lit x)=(.lit x)) /\
 (eN id id' AV.al=AV.al) /\
 (∀(sz0:Nat) (es0:List AV),eN id id' (.ro sz0 es0)=(.ro sz0 es0)) /\
 (∀(x:AV),eN id id' (.aq x)=(.aq x)) /\
 (∀(i o n:Nat),eN id id' (.sl i o n)=.sl (rn id id' i) o n) /\
 (∀(i j f:Nat),eN id id' (.ptr i j f)=.ptr (rn id id' i) j f) /\
 (∀(i f:Nat),eN id id' (.aa i f)=.aa (rn id id' i) f) /\
 (∀(cs:List AV),eN id id' (.agg cs)=.agg (cs.map (cD id id'))) /\
 (∀(cs:List AV),eN id id' (.af cs)=.af (cs.map (dv id id'))) /\
 (∀(b:Bool) (x:AV),eN id id' (.gd b x)=.gd b (dv id id' x)) /\
 (∀(f:Nat) (cs:List AV),eN id id' (.aK f cs)=.aK f (cs.map (cD id id'))):=
 ⟨rfl,λ_=>rfl,λ_ _=>rfl,λ_ _=>rfl,λ_ _ _=>rfl,λ_=>rfl,λ_=>rfl,rfl,λ_ _=>rfl,λ_=>rfl,λ_ _ _=>rfl,λ_ _ _=>rfl,λ_ _=>rfl,λ_=>rfl,λ_=>rfl,λ_ _=>rfl,λ_ _=>rfl⟩
theorem Qu (ids keep:List Nat) :
 (cL ids keep AV.undef=AV.undef) /\
 (∀(b:Bool),cL ids keep (.bool b)=(.bool b)) /\
 (∀(k:IntKind) (n:Int),cL ids keep (.int k n)=(.int k n)) /\
 (∀(k:FloatKind) (n:Nat),cL ids keep (.fl k n)=(.fl k n)) /\
 (∀(k:FloatKind) (a b:Nat),cL ids keep (.cx k a b)=(.cx k a b)) /\
 (∀(l:List UInt8),cL ids keep (.str l)=(.str l)) /\
 (∀(x:Value),cL ids keep (.lit x)=(.lit x)) /\
 (cL ids keep AV.al=AV.al) /\
 (∀(sz0:Nat) (es0:List AV),cL ids keep (.ro sz0 es0)=(.ro sz0 es0)) /\
 (∀(x:AV),cL ids keep (.aq x)=(.aq x)) /\
 (∀(i o n:Nat),cL ids keep (.sl i o n)=cu (memN i ids) (.sl i o n)) /\
 (∀(i j f:Nat),cL ids keep (.ptr i j f)=cu (memN i ids) (.ptr i j f)) /\
 (∀(i f:Nat),cL ids keep (.aa i f)=kY (memN i keep) (.aa i f) (cu (memN i ids) (.aa i f))) /\
 (∀(cs:List AV),cL ids keep (.agg cs)=AV.undef) /\
 (∀(cs:List AV),cL ids keep (.af cs)=AV.undef) /\
 (∀(b:Bool) (x:AV),cL ids keep (.gd b x)=AV.undef) /\
 (∀(f:Nat) (cs:List AV),cL ids keep (.aK f cs)=AV.undef):=
 ⟨rfl,λ_=>rfl,λ_ _=>rfl,λ_ _=>rfl,λ_ _ _=>rfl,λ_=>rfl,λ_=>rfl,rfl,λ_ _=>rfl,λ_=>rfl,λ_ _ _=>lB,λ_ _ _=>lB,λ_ _=>(by rw[<-lB,<-xw];rfl),λ_=>rfl,λ_=>rfl,λ_ _=>rfl,λ_ _=>rfl⟩
theorem Qt (ids keep:List Nat) :
 (dD ids keep AV.undef=AV.undef) /\
 (∀(b:Bool),dD ids keep (.bool b)=(.bool b)) /\
 (∀(k:IntKind) (n:Int),dD ids keep (.int k n)=(.int k n)) /\
 (∀(k:FloatKind) (n:Nat),dD ids keep (.fl k n)=(.fl k n)) /\
 (∀(k:FloatKind) (a b:Nat),dD ids keep (.cx k a b)=(.cx k a b)) /\
 (∀(l:List UInt8),dD ids keep (.str l)=(.str l)) /\
 (∀(x:Value),dD ids keep (.lit x)=(.lit x)) /\
 (dD ids keep AV.al=AV.al) /\
 (∀(sz0:Nat) (es0:List AV),dD ids keep (.ro sz0 es0)=(.ro sz0 es0)) /\
 (∀(x:AV),dD ids keep (.aq x)=(.aq x)) /\
 (∀(i o n:Nat),dD ids keep (.sl i o n)=cu (memN i ids) (.sl i o n)) /\
 (∀(i j f:Nat),dD ids keep (.ptr i j f)=cu (memN i ids) (.ptr i j f)) /\
 (∀(i f:Nat),dD ids keep (.aa i f)=kY (memN i keep) (.aa i f) (cu (memN i ids) (.aa i f))) /\
 (∀(cs:List AV),dD ids keep (.agg cs)=.agg (cs.map (cL ids keep))) /\
 (∀(cs:List AV),dD ids keep (.af cs)=AV.undef) /\
 (∀(b:Bool) (x:AV),dD ids keep (.gd b x)=AV.undef) /\
 (∀(f:Nat) (cs:List AV),dD ids keep (.aK f cs)=.aK f (cs.map (cL ids keep))):=
 ⟨rfl,λ_=>rfl,λ_ _=>rfl,λ_ _=>rfl,λ_ _ _=>rfl,λ_=>rfl,λ_=>rfl,rfl,λ_ _=>rfl,λ_=>rfl,λ_ _ _=>lB,λ_ _ _=>lB,λ_ _=>(by rw[<-lB,<-xw];rfl),λ_=>rfl,λ_=>rfl,λ_ _=>rfl,λ_ _=>rfl⟩
theorem Qr (ids keep:List Nat) :
 (kI ids keep AV.undef=AV.undef) /\
 (∀(b:Bool),kI ids keep (.bool b)=(.bool b)) /\
 (∀(k:IntKind) (n:Int),kI ids keep (.int k n)=(.int k n)) /\
 (∀(k:FloatKind) (n:Nat),kI ids keep (.fl k n)=(.fl k n)) /\
 (∀(k:FloatKind) (a b:Nat),kI ids keep (.cx k a b)=(.cx k a b)) /\
 (∀(l:List UInt8),kI ids keep (.str l)=(.str l)) /\
 (∀(x:Value),kI ids keep (.lit x)=(.lit x)) /\
 (kI ids keep AV.al=AV.al) /\
 (∀(sz0:Nat) (es0:List AV),kI ids keep (.ro sz0 es0)=(.ro sz0 es0)) /\
 (∀(x:AV),kI ids keep (.aq x)=(.aq x)) /\
 (∀(i o n:Nat),kI ids keep (.sl i o n)=cu (memN i ids) (.sl i o n)) /\
 (∀(i j f:Nat),kI ids keep (.ptr i j f)=cu (memN i ids) (.ptr i j f)) /\
 (∀(i f:Nat),kI ids keep (.aa i f)=kY (memN i keep) (.aa i f) (cu (memN i ids) (.aa i f))) /\
 (∀(cs:List AV),kI ids keep (.agg cs)=.agg (cs.map (cL ids keep))) /\
 (∀(cs:List AV),kI ids keep (.af cs)=.af (cs.map (dD ids keep))) /\
 (∀(b:Bool) (x:AV),kI ids keep (.gd b x)=.gd b (dD ids keep x)) /\
 (∀(f:Nat) (cs:List AV),kI ids keep (.aK f cs)=.aK f (cs.map (cL ids keep))):=
 ⟨rfl,λ_=>rfl,λ_ _=>rfl,λ_ _=>rfl,λ_ _ _=>rfl,λ_=>rfl,λ_=>rfl,rfl,λ_ _=>rfl,λ_=>rfl,λ_ _ _=>lB,λ_ _ _=>lB,λ_ _=>(by rw[<-lB,<-xw];rfl),λ_=>rfl,λ_=>rfl,λ_ _=>rfl,λ_ _=>rfl⟩
theorem J2 (h:HP) :
 (borrowC h AV.undef=AV.undef) /\
 (∀(b:Bool),borrowC h (.bool b)=(.bool b)) /\
 (∀(k:IntKind) (n:Int),borrowC h (.int k n)=(.int k n)) /\
 (∀(k:FloatKind) (n:Nat),borrowC h (.fl k n)=(.fl k n)) /\
 (∀(k:FloatKind) (a b:Nat),borrowC h (.cx k a b)=(.cx k a b)) /\
 (∀(l:List UInt8),borrowC h (.str l)=(.str l)) /\
 (∀(x:Value),borrowC h (.lit x)=(.lit x)) /\
 (borrowC h AV.al=AV.al) /\
 (∀(sz0:Nat) (es0:List AV),borrowC h (.ro sz0 es0)=(.ro sz0 es0)) /\
 (∀(x:AV),borrowC h (.aq x)=(.aq x)) /\
 (∀(i o n:Nat),borrowC h (.sl i o n)=borSl (hget h i) o n) /\
 (∀(i j f:Nat),borrowC h (.ptr i j f)=AV.undef) /\
 (∀(i f:Nat),borrowC h (.aa i f)=AV.undef) /\
 (∀(cs:List AV),borrowC h (.agg cs)=AV.undef) /\
 (∀(cs:List AV),borrowC h (.af cs)=AV.undef) /\
 (∀(b:Bool) (x:AV),borrowC h (.gd b x)=AV.undef) /\
 (∀(f:Nat) (cs:List AV),borrowC h (.aK f cs)=AV.undef):=
 ⟨rfl,λ_=>rfl,λ_ _=>rfl,λ_ _=>rfl,λ_ _ _=>rfl,λ_=>rfl,λ_=>rfl,rfl,λ_ _=>rfl,λ_=>rfl,λ_ _ _=>(by simp only[borrowC,borSl];split<;>simp_all),λ_ _ _=>rfl,λ_ _=>rfl,λ_=>rfl,λ_=>rfl,λ_ _=>rfl,λ_ _=>rfl⟩
theorem J3 (h:HP) :
 (borrow h AV.undef=AV.undef) /\
 (∀(b:Bool),borrow h (.bool b)=(.bool b)) /\
 (∀(k:IntKind) (n:Int),borrow h (.int k n)=(.int k n)) /\
 (∀(k:FloatKind) (n:Nat),borrow h (.fl k n)=(.fl k n)) /\
 (∀(k:FloatKind) (a b:Nat),borrow h (.cx k a b)=(.cx k a b)) /\
 (∀(l:List UInt8),borrow h (.str l)=(.str l)) /\
 (∀(x:Value),borrow h (.lit x)=(.lit x)) /\
 (borrow h AV.al=AV.al) /\
 (∀(sz0:Nat) (es0:List AV),borrow h (.ro sz0 es0)=(.ro sz0 es0)) /\
 (∀(x:AV),borrow h (.aq x)=(.aq x)) /\
 (∀(i o n:Nat),borrow h (.sl i o n)=borSl (hget h i) o n) /\
 (∀(i j f:Nat),borrow h (.ptr i j f)=AV.undef) /\
 (∀(i f:Nat),borrow h (.aa i f)=AV.undef) /\
 (∀(cs:List AV),borrow h (.agg cs)=.agg (cs.map (borrowC h))) /\
 (∀(cs:List AV),borrow h (.af cs)=AV.undef) /\
 (∀(b:Bool) (x:AV),borrow h (.gd b x)=AV.undef) /\
 (∀(f:Nat) (cs:List AV),borrow h (.aK f cs)=AV.undef):=
 ⟨rfl,λ_=>rfl,λ_ _=>rfl,λ_ _=>rfl,λ_ _ _=>rfl,λ_=>rfl,λ_=>rfl,rfl,λ_ _=>rfl,λ_=>rfl,λ_ _ _=>(by simp only[borrow,borrowC,borSl];split<;>simp_all),λ_ _ _=>rfl,λ_ _=>rfl,λ_=>rfl,λ_=>rfl,λ_ _=>rfl,λ_ _=>rfl⟩
theorem Jo (h0 h:HP) :
 (bcell h0 h AV.undef=AV.undef) /\
 (∀(b:Bool),bcell h0 h (.bool b)=(.bool b)) /\
 (∀(k:IntKind) (n:Int),bcell h0 h (.int k n)=(.int k n)) /\
 (∀(k:FloatKind) (n:Nat),bcell h0 h (.fl k n)=(.fl k n)) /\
 (∀(k:FloatKind) (a b:Nat),bcell h0 h (.cx k a b)=(.cx k a b)) /\
 (∀(l:List UInt8),bcell h0 h (.str l)=(.str l)) /\
 (∀(x:Value),bcell h0 h (.lit x)=(.lit x)) /\
 (bcell h0 h AV.al=AV.al) /\
 (∀(sz0:Nat) (es0:List AV),bcell h0 h (.ro sz0 es0)=(.ro sz0 es0)) /\
 (∀(x:AV),bcell h0 h (.aq x)=(.aq x)) /\
 (∀(i o n:Nat),bcell h0 h (.sl i o n)=keepO (hget h0 i) AV.undef (borSl (hget h i) o n)) /\
 (∀(i j f:Nat),bcell h0 h (.ptr i j f)=AV.undef) /\
 (∀(i f:Nat),bcell h0 h (.aa i f)=AV.undef) /\
 (∀(cs:List AV),bcell h0 h (.agg cs)=AV.undef) /\
 (∀(cs:List AV),bcell h0 h (.af cs)=AV.undef) /\
 (∀(b:Bool) (x:AV),bcell h0 h (.gd b x)=AV.undef) /\
 (∀(f:Nat) (cs:List AV),bcell h0 h (.aK f cs)=AV.undef):=
 ⟨rfl,λ_=>rfl,λ_ _=>rfl,λ_ _=>rfl,λ_ _ _=>rfl,λ_=>rfl,λ_=>rfl,rfl,λ_ _=>rfl,λ_=>rfl,λ_ _ _=>(by simp only[bcell,borrowC,borSl,keepO];split<;>(try split)<;>simp_all),λ_ _ _=>rfl,λ_ _=>rfl,λ_=>rfl,λ_=>rfl,λ_ _=>rfl,λ_ _=>rfl⟩
theorem JV (h0 h:HP) :
 (borC h0 h AV.undef=AV.undef) /\
 (∀(b:Bool),borC h0 h (.bool b)=(.bool b)) /\
 (∀(k:IntKind) (n:Int),borC h0 h (.int k n)=(.int k n)) /\
 (∀(k:FloatKind) (n:Nat),borC h0 h (.fl k n)=(.fl k n)) /\
 (∀(k:FloatKind) (a b:Nat),borC h0 h (.cx k a b)=(.cx k a b)) /\
 (∀(l:List UInt8),borC h0 h (.str l)=(.str l)) /\
 (∀(x:Value),borC h0 h (.lit x)=(.lit x)) /\
 (borC h0 h AV.al=AV.al) /\
 (∀(sz0:Nat) (es0:List AV),borC h0 h (.ro sz0 es0)=(.ro sz0 es0)) /\
 (∀(x:AV),borC h0 h (.aq x)=(.aq x)) /\
 (∀(i o n:Nat),borC h0 h (.sl i o n)=keepO (hget h0 i) (.sl i o n) (borSl (hget h i) o n)) /\
 (∀(i j f:Nat),borC h0 h (.ptr i j f)=keepO (hget h0 i) (.ptr i j f) AV.undef) /\
 (∀(i f:Nat),borC h0 h (.aa i f)=keepO (hget h0 i) (.aa i f) (borV h0 h (hget h i) f)) /\
 (∀(cs:List AV),borC h0 h (.agg cs)=AV.undef) /\
 (∀(cs:List AV),borC h0 h (.af cs)=AV.undef) /\
 (∀(b:Bool) (x:AV),borC h0 h (.gd b x)=AV.undef) /\
 (∀(f:Nat) (cs:List AV),borC h0 h (.aK f cs)=AV.undef):=
 ⟨rfl,λ_=>rfl,λ_ _=>rfl,λ_ _=>rfl,λ_ _ _=>rfl,λ_=>rfl,λ_=>rfl,rfl,λ_ _=>rfl,λ_=>rfl,λ_ _ _=>(by simp only[borC,borrowC,borSl,keepO];split<;>(try split)<;>simp_all),λ_ _ _=>(by simp only[borC,keepO];rfl),λ_ _=>(by simp only[borC,borV,keepO];rfl),λ_=>rfl,λ_=>rfl,λ_ _=>rfl,λ_ _=>rfl⟩
theorem J0 (h0 h:HP) :
 (bor h0 h AV.undef=AV.undef) /\
 (∀(b:Bool),bor h0 h (.bool b)=(.bool b)) /\
 (∀(k:IntKind) (n:Int),bor h0 h (.int k n)=(.int k n)) /\
 (∀(k:FloatKind) (n:Nat),bor h0 h (.fl k n)=(.fl k n)) /\
 (∀(k:FloatKind) (a b:Nat),bor h0 h (.cx k a b)=(.cx k a b)) /\
 (∀(l:List UInt8),bor h0 h (.str l)=(.str l)) /\
 (∀(x:Value),bor h0 h (.lit x)=(.lit x)) /\
 (bor h0 h AV.al=AV.al) /\
 (∀(sz0:Nat) (es0:List AV),bor h0 h (.ro sz0 es0)=(.ro sz0 es0)) /\
 (∀(x:AV),bor h0 h (.aq x)=(.aq x)) /\
 (∀(i o n:Nat),bor h0 h (.sl i o n)=keepO (hget h0 i) (.sl i o n) (borSl (hget h i) o n)) /\
 (∀(i j f:Nat),bor h0 h (.ptr i j f)=keepO (hget h0 i) (.ptr i j f) AV.undef) /\
 (∀(i f:Nat),bor h0 h (.aa i f)=keepO (hget h0 i) (.aa i f) (borV h0 h (hget h i) f)) /\
 (∀(cs:List AV),bor h0 h (.agg cs)=.agg (cs.map (borC h0 h))) /\
 (∀(cs:List AV),bor h0 h (.af cs)=AV.undef) /\
 (∀(b:Bool) (x:AV),bor h0 h (.gd b x)=AV.undef) /\
 (∀(f:Nat) (cs:List AV),bor h0 h (.aK f cs)=AV.undef):=
 ⟨rfl,λ_=>rfl,λ_ _=>rfl,λ_ _=>rfl,λ_ _ _=>rfl,λ_=>rfl,λ_=>rfl,rfl,λ_ _=>rfl,λ_=>rfl,λ_ _ _=>(by simp only[bor,borC,borrowC,borSl,keepO];split<;>(try split)<;>simp_all),λ_ _ _=>(by simp only[bor,borC,keepO];rfl),λ_ _=>(by simp only[bor,borC,borV,keepO];rfl),λ_=>rfl,λ_=>rfl,λ_ _=>rfl,λ_ _=>rfl⟩
theorem TP :
 (noRefC  AV.undef=true) /\
 (∀(b:Bool),noRefC  (.bool b)=true) /\
 (∀(k:IntKind) (n:Int),noRefC  (.int k n)=true) /\
 (∀(k:FloatKind) (n:Nat),noRefC  (.fl k n)=true) /\
 (∀(k:FloatKind) (a b:Nat),noRefC  (.cx k a b)=true) /\
 (∀(l:List UInt8),noRefC  (.str l)=true) /\
 (∀(x:Value),noRefC  (.lit x)=true) /\
 (noRefC  AV.al=true) /\
 (∀(sz0:Nat) (es0:List AV),noRefC  (.ro sz0 es0)=true) /\
 (∀(x:AV),noRefC  (.aq x)=true) /\
 (∀(i o n:Nat),noRefC  (.sl i o n)=false) /\
 (∀(i j f:Nat),noRefC  (.ptr i j f)=false) /\
 (∀(i f:Nat),noRefC  (.aa i f)=false) /\
 (∀(cs:List AV),noRefC  (.agg cs)=false) /\
 (∀(cs:List AV),noRefC  (.af cs)=false) /\
 (∀(b:Bool) (x:AV),noRefC  (.gd b x)=false) /\
 (∀(f:Nat) (cs:List AV),noRefC  (.aK f cs)=false):=
 ⟨rfl,λ_=>rfl,λ_ _=>rfl,λ_ _=>rfl,λ_ _ _=>rfl,λ_=>rfl,λ_=>rfl,rfl,λ_ _=>rfl,λ_=>rfl,λ_ _ _=>rfl,λ_ _ _=>rfl,λ_ _=>rfl,λ_=>rfl,λ_=>rfl,λ_ _=>rfl,λ_ _=>rfl⟩
theorem Nz :
 (flC  AV.undef=true) /\
 (∀(b:Bool),flC  (.bool b)=true) /\
 (∀(k:IntKind) (n:Int),flC  (.int k n)=true) /\
 (∀(k:FloatKind) (n:Nat),flC  (.fl k n)=true) /\
 (∀(k:FloatKind) (a b:Nat),flC  (.cx k a b)=true) /\
 (∀(l:List UInt8),flC  (.str l)=true) /\
 (∀(x:Value),flC  (.lit x)=true) /\
 (flC  AV.al=true) /\
 (∀(sz0:Nat) (es0:List AV),flC  (.ro sz0 es0)=false) /\
 (∀(x:AV),flC  (.aq x)=false) /\
 (∀(i o n:Nat),flC  (.sl i o n)=false) /\
 (∀(i j f:Nat),flC  (.ptr i j f)=false) /\
 (∀(i f:Nat),flC  (.aa i f)=false) /\
 (∀(cs:List AV),flC  (.agg cs)=false) /\
 (∀(cs:List AV),flC  (.af cs)=false) /\
 (∀(b:Bool) (x:AV),flC  (.gd b x)=false) /\
 (∀(f:Nat) (cs:List AV),flC  (.aK f cs)=false):=
 ⟨rfl,λ_=>rfl,λ_ _=>rfl,λ_ _=>rfl,λ_ _ _=>rfl,λ_=>rfl,λ_=>rfl,rfl,λ_ _=>rfl,λ_=>rfl,λ_ _ _=>rfl,λ_ _ _=>rfl,λ_ _=>rfl,λ_=>rfl,λ_=>rfl,λ_ _=>rfl,λ_ _=>rfl⟩
theorem P9 :
 (isCell  AV.undef=false) /\
 (∀(b:Bool),isCell  (.bool b)=true) /\
 (∀(k:IntKind) (n:Int),isCell  (.int k n)=true) /\
 (∀(k:FloatKind) (n:Nat),isCell  (.fl k n)=true) /\
 (∀(k:FloatKind) (a b:Nat),isCell  (.cx k a b)=true) /\
 (∀(l:List UInt8),isCell  (.str l)=true) /\
 (∀(x:Value),isCell  (.lit x)=x.oneCell') /\
 (isCell  AV.al=true) /\
 (∀(sz0:Nat) (es0:List AV),isCell  (.ro sz0 es0)=true) /\
 (∀(x:AV),isCell  (.aq x)=true) /\
 (∀(i o n:Nat),isCell  (.sl i o n)=true) /\
 (∀(i j f:Nat),isCell  (.ptr i j f)=true) /\
 (∀(i f:Nat),isCell  (.aa i f)=true) /\
 (∀(cs:List AV),isCell  (.agg cs)=false) /\
 (∀(cs:List AV),isCell  (.af cs)=false) /\
 (∀(b:Bool) (x:AV),isCell  (.gd b x)=false) /\
 (∀(f:Nat) (cs:List AV),isCell  (.aK f cs)=false):=
 ⟨rfl,λ_=>rfl,λ_ _=>rfl,λ_ _=>rfl,λ_ _ _=>rfl,λ_=>rfl,λ_=>rfl,rfl,λ_ _=>rfl,λ_=>rfl,λ_ _ _=>rfl,λ_ _ _=>rfl,λ_ _=>rfl,λ_=>rfl,λ_=>rfl,λ_ _=>rfl,λ_ _=>rfl⟩
theorem TR :
 (bM  AV.undef=true) /\
 (∀(b:Bool),bM  (.bool b)=true) /\
 (∀(k:IntKind) (n:Int),bM  (.int k n)=true) /\
 (∀(k:FloatKind) (n:Nat),bM  (.fl k n)=true) /\
 (∀(k:FloatKind) (a b:Nat),bM  (.cx k a b)=true) /\
 (∀(l:List UInt8),bM  (.str l)=true) /\
 (∀(x:Value),bM  (.lit x)=true) /\
 (bM  AV.al=true) /\
 (∀(sz0:Nat) (es0:List AV),bM  (.ro sz0 es0)=true) /\
 (∀(x:AV),bM  (.aq x)=true) /\
 (∀(i o n:Nat),bM  (.sl i o n)=false) /\
 (∀(i j f:Nat),bM  (.ptr i j f)=false) /\
 (∀(i f:Nat),bM  (.aa i f)=false) /\
 (∀(cs:List AV),bM  (.agg cs)=cs.all noRefC) /\
 (∀(cs:List AV),bM  (.af cs)=false) /\
 (∀(b:Bool) (x:AV),bM  (.gd b x)=false) /\
 (∀(f:Nat) (cs:List AV),bM  (.aK f cs)=false):=
 ⟨rfl,λ_=>rfl,λ_ _=>rfl,λ_ _=>rfl,λ_ _ _=>rfl,λ_=>rfl,λ_=>rfl,rfl,λ_ _=>rfl,λ_=>rfl,λ_ _ _=>rfl,λ_ _ _=>rfl,λ_ _=>rfl,λ_=>rfl,λ_=>rfl,λ_ _=>rfl,λ_ _=>rfl⟩
theorem TQ :
 (eV  AV.undef=true) /\
 (∀(b:Bool),eV  (.bool b)=true) /\
 (∀(k:IntKind) (n:Int),eV  (.int k n)=true) /\
 (∀(k:FloatKind) (n:Nat),eV  (.fl k n)=true) /\
 (∀(k:FloatKind) (a b:Nat),eV  (.cx k a b)=true) /\
 (∀(l:List UInt8),eV  (.str l)=true) /\
 (∀(x:Value),eV  (.lit x)=true) /\
 (eV  AV.al=true) /\
 (∀(sz0:Nat) (es0:List AV),eV  (.ro sz0 es0)=true) /\
 (∀(x:AV),eV  (.aq x)=true) /\
 (∀(i o n:Nat),eV  (.sl i o n)=false) /\
 (∀(i j f:Nat),eV  (.ptr i j f)=false) /\
 (∀(i f:Nat),eV  (.aa i f)=false) /\
 (∀(cs:List AV),eV  (.agg cs)=cs.all noRefC) /\
 (∀(cs:List AV),eV  (.af cs)=cs.all bM) /\
 (∀(b:Bool) (x:AV),eV  (.gd b x)=false) /\
 (∀(f:Nat) (cs:List AV),eV  (.aK f cs)=false):=
 ⟨rfl,λ_=>rfl,λ_ _=>rfl,λ_ _=>rfl,λ_ _ _=>rfl,λ_=>rfl,λ_=>rfl,rfl,λ_ _=>rfl,λ_=>rfl,λ_ _ _=>rfl,λ_ _ _=>rfl,λ_ _=>rfl,λ_=>rfl,λ_=>rfl,λ_ _=>rfl,λ_ _=>rfl⟩
theorem Nx :
 (flA  AV.undef=true) /\
 (∀(b:Bool),flA  (.bool b)=true) /\
 (∀(k:IntKind) (n:Int),flA  (.int k n)=true) /\
 (∀(k:FloatKind) (n:Nat),flA  (.fl k n)=true) /\
 (∀(k:FloatKind) (a b:Nat),flA  (.cx k a b)=true) /\
 (∀(l:List UInt8),flA  (.str l)=true) /\
 (∀(x:Value),flA  (.lit x)=true) /\
 (flA  AV.al=true) /\
 (∀(sz0:Nat) (es0:List AV),flA  (.ro sz0 es0)=false) /\
 (∀(x:AV),flA  (.aq x)=false) /\
 (∀(i o n:Nat),flA  (.sl i o n)=false) /\
 (∀(i j f:Nat),flA  (.ptr i j f)=false) /\
 (∀(i f:Nat),flA  (.aa i f)=false) /\
 (∀(cs:List AV),flA  (.agg cs)=cs.all flC) /\
 (∀(cs:List AV),flA  (.af cs)=false) /\
 (∀(b:Bool) (x:AV),flA  (.gd b x)=false) /\
 (∀(f:Nat) (cs:List AV),flA  (.aK f cs)=false):=
 ⟨rfl,λ_=>rfl,λ_ _=>rfl,λ_ _=>rfl,λ_ _ _=>rfl,λ_=>rfl,λ_=>rfl,rfl,λ_ _=>rfl,λ_=>rfl,λ_ _ _=>rfl,λ_ _ _=>rfl,λ_ _=>rfl,λ_=>rfl,λ_=>rfl,λ_ _=>rfl,λ_ _=>rfl⟩
theorem NF :
 (dS  AV.undef=true) /\
 (∀(b:Bool),dS  (.bool b)=true) /\
 (∀(k:IntKind) (n:Int),dS  (.int k n)=true) /\
 (∀(k:FloatKind) (n:Nat),dS  (.fl k n)=true) /\
 (∀(k:FloatKind) (a b:Nat),dS  (.cx k a b)=true) /\
 (∀(l:List UInt8),dS  (.str l)=true) /\
 (∀(x:Value),dS  (.lit x)=true) /\
 (dS  AV.al=true) /\
 (∀(sz0:Nat) (es0:List AV),dS  (.ro sz0 es0)=false) /\
 (∀(x:AV),dS  (.aq x)=false) /\
 (∀(i o n:Nat),dS  (.sl i o n)=false) /\
 (∀(i j f:Nat),dS  (.ptr i j f)=false) /\
 (∀(i f:Nat),dS  (.aa i f)=false) /\
 (∀(cs:List AV),dS  (.agg cs)=cs.all flC) /\
 (∀(cs:List AV),dS  (.af cs)=cs.all flA) /\
 (∀(b:Bool) (x:AV),dS  (.gd b x)=false) /\
 (∀(f:Nat) (cs:List AV),dS  (.aK f cs)=false):=
 ⟨rfl,λ_=>rfl,λ_ _=>rfl,λ_ _=>rfl,λ_ _ _=>rfl,λ_=>rfl,λ_=>rfl,rfl,λ_ _=>rfl,λ_=>rfl,λ_ _ _=>rfl,λ_ _ _=>rfl,λ_ _=>rfl,λ_=>rfl,λ_=>rfl,λ_ _=>rfl,λ_ _=>rfl⟩
theorem N2 (h:HP) :
 (de h AV.undef=true) /\
 (∀(b:Bool),de h (.bool b)=true) /\
 (∀(k:IntKind) (n:Int),de h (.int k n)=true) /\
 (∀(k:FloatKind) (n:Nat),de h (.fl k n)=true) /\
 (∀(k:FloatKind) (a b:Nat),de h (.cx k a b)=true) /\
 (∀(l:List UInt8),de h (.str l)=true) /\
 (∀(x:Value),de h (.lit x)=true) /\
 (de h AV.al=true) /\
 (∀(sz0:Nat) (es0:List AV),de h (.ro sz0 es0)=false) /\
 (∀(x:AV),de h (.aq x)=false) /\
 (∀(i o n:Nat),de h (.sl i o n)=(hget h i).isSome) /\
 (∀(i j f:Nat),de h (.ptr i j f)=(hget h i).isSome) /\
 (∀(i f:Nat),de h (.aa i f)=(hget h i).isSome) /\
 (∀(cs:List AV),de h (.agg cs)=false) /\
 (∀(cs:List AV),de h (.af cs)=false) /\
 (∀(b:Bool) (x:AV),de h (.gd b x)=false) /\
 (∀(f:Nat) (cs:List AV),de h (.aK f cs)=false):=
 ⟨rfl,λ_=>rfl,λ_ _=>rfl,λ_ _=>rfl,λ_ _ _=>rfl,λ_=>rfl,λ_=>rfl,rfl,λ_ _=>rfl,λ_=>rfl,λ_ _ _=>rfl,λ_ _ _=>rfl,λ_ _=>rfl,λ_=>rfl,λ_=>rfl,λ_ _=>rfl,λ_ _=>rfl⟩
theorem N1 (h:HP) :
 (ep h AV.undef=true) /\
 (∀(b:Bool),ep h (.bool b)=true) /\
 (∀(k:IntKind) (n:Int),ep h (.int k n)=true) /\
 (∀(k:FloatKind) (n:Nat),ep h (.fl k n)=true) /\
 (∀(k:FloatKind) (a b:Nat),ep h (.cx k a b)=true) /\
 (∀(l:List UInt8),ep h (.str l)=true) /\
 (∀(x:Value),ep h (.lit x)=true) /\
 (ep h AV.al=true) /\
 (∀(sz0:Nat) (es0:List AV),ep h (.ro sz0 es0)=false) /\
 (∀(x:AV),ep h (.aq x)=false) /\
 (∀(i o n:Nat),ep h (.sl i o n)=(hget h i).isSome) /\
 (∀(i j f:Nat),ep h (.ptr i j f)=(hget h i).isSome) /\
 (∀(i f:Nat),ep h (.aa i f)=(hget h i).isSome) /\
 (∀(cs:List AV),ep h (.agg cs)=cs.all (de h)) /\
 (∀(cs:List AV),ep h (.af cs)=false) /\
 (∀(b:Bool) (x:AV),ep h (.gd b x)=false) /\
 (∀(f:Nat) (cs:List AV),ep h (.aK f cs)=false):=
 ⟨rfl,λ_=>rfl,λ_ _=>rfl,λ_ _=>rfl,λ_ _ _=>rfl,λ_=>rfl,λ_=>rfl,rfl,λ_ _=>rfl,λ_=>rfl,λ_ _ _=>rfl,λ_ _ _=>rfl,λ_ _=>rfl,λ_=>rfl,λ_=>rfl,λ_ _=>rfl,λ_ _=>rfl⟩
theorem NB (h:HP) :
 (ft h AV.undef=true) /\
 (∀(b:Bool),ft h (.bool b)=true) /\
 (∀(k:IntKind) (n:Int),ft h (.int k n)=true) /\
 (∀(k:FloatKind) (n:Nat),ft h (.fl k n)=true) /\
 (∀(k:FloatKind) (a b:Nat),ft h (.cx k a b)=true) /\
 (∀(l:List UInt8),ft h (.str l)=true) /\
 (∀(x:Value),ft h (.lit x)=true) /\
 (ft h AV.al=true) /\
 (∀(sz0:Nat) (es0:List AV),ft h (.ro sz0 es0)=false) /\
 (∀(x:AV),ft h (.aq x)=false) /\
 (∀(i o n:Nat),ft h (.sl i o n)=(hget h i).isSome) /\
 (∀(i j f:Nat),ft h (.ptr i j f)=(hget h i).isSome) /\
 (∀(i f:Nat),ft h (.aa i f)=(hget h i).isSome) /\
 (∀(cs:List AV),ft h (.agg cs)=cs.all (de h)) /\
 (∀(cs:List AV),ft h (.af cs)=cs.all (ep h)) /\
 (∀(b:Bool) (x:AV),ft h (.gd b x)=false) /\
 (∀(f:Nat) (cs:List AV),ft h (.aK f cs)=false):=
 ⟨rfl,λ_=>rfl,λ_ _=>rfl,λ_ _=>rfl,λ_ _ _=>rfl,λ_=>rfl,λ_=>rfl,rfl,λ_ _=>rfl,λ_=>rfl,λ_ _ _=>rfl,λ_ _ _=>rfl,λ_ _=>rfl,λ_=>rfl,λ_=>rfl,λ_ _=>rfl,λ_ _=>rfl⟩
theorem PG (h:HP) :
 (dh h AV.undef=true) /\
 (∀(b:Bool),dh h (.bool b)=true) /\
 (∀(k:IntKind) (n:Int),dh h (.int k n)=true) /\
 (∀(k:FloatKind) (n:Nat),dh h (.fl k n)=true) /\
 (∀(k:FloatKind) (a b:Nat),dh h (.cx k a b)=true) /\
 (∀(l:List UInt8),dh h (.str l)=true) /\
 (∀(x:Value),dh h (.lit x)=true) /\
 (dh h AV.al=true) /\
 (∀(sz0:Nat) (es0:List AV),dh h (.ro sz0 es0)=true) /\
 (∀(x:AV),dh h (.aq x)=true) /\
 (∀(i o n:Nat),dh h (.sl i o n)=(hget h i).isSome) /\
 (∀(i j f:Nat),dh h (.ptr i j f)=(hget h i).isSome) /\
 (∀(i f:Nat),dh h (.aa i f)=(hget h i).isSome) /\
 (∀(cs:List AV),dh h (.agg cs)=false) /\
 (∀(cs:List AV),dh h (.af cs)=false) /\
 (∀(b:Bool) (x:AV),dh h (.gd b x)=false) /\
 (∀(f:Nat) (cs:List AV),dh h (.aK f cs)=false):=
 ⟨rfl,λ_=>rfl,λ_ _=>rfl,λ_ _=>rfl,λ_ _ _=>rfl,λ_=>rfl,λ_=>rfl,rfl,λ_ _=>rfl,λ_=>rfl,λ_ _ _=>rfl,λ_ _ _=>rfl,λ_ _=>rfl,λ_=>rfl,λ_=>rfl,λ_ _=>rfl,λ_ _=>rfl⟩
theorem PF (h:HP) :
 (eu h AV.undef=true) /\
 (∀(b:Bool),eu h (.bool b)=true) /\
 (∀(k:IntKind) (n:Int),eu h (.int k n)=true) /\
 (∀(k:FloatKind) (n:Nat),eu h (.fl k n)=true) /\
 (∀(k:FloatKind) (a b:Nat),eu h (.cx k a b)=true) /\
 (∀(l:List UInt8),eu h (.str l)=true) /\
 (∀(x:Value),eu h (.lit x)=true) /\
 (eu h AV.al=true) /\
 (∀(sz0:Nat) (es0:List AV),eu h (.ro sz0 es0)=true) /\
 (∀(x:AV),eu h (.aq x)=true) /\
 (∀(i o n:Nat),eu h (.sl i o n)=(hget h i).isSome) /\
 (∀(i j f:Nat),eu h (.ptr i j f)=(hget h i).isSome) /\
 (∀(i f:Nat),eu h (.aa i f)=(hget h i).isSome) /\
 (∀(cs:List AV),eu h (.agg cs)=cs.all (dh h)) /\
 (∀(cs:List AV),eu h (.af cs)=false) /\
 (∀(b:Bool) (x:AV),eu h (.gd b x)=false) /\
 (∀(f:Nat) (cs:List AV),eu h (.aK f cs)=false):=
 ⟨rfl,λ_=>rfl,λ_ _=>rfl,λ_ _=>rfl,λ_ _ _=>rfl,λ_=>rfl,λ_=>rfl,rfl,λ_ _=>rfl,λ_=>rfl,λ_ _ _=>rfl,λ_ _ _=>rfl,λ_ _=>rfl,λ_=>rfl,λ_=>rfl,λ_ _=>rfl,λ_ _=>rfl⟩
theorem PK (h:HP) :
 (eJ h AV.undef=true) /\
 (∀(b:Bool),eJ h (.bool b)=true) /\
 (∀(k:IntKind) (n:Int),eJ h (.int k n)=true) /\
 (∀(k:FloatKind) (n:Nat),eJ h (.fl k n)=true) /\
 (∀(k:FloatKind) (a b:Nat),eJ h (.cx k a b)=true) /\
 (∀(l:List UInt8),eJ h (.str l)=true) /\
 (∀(x:Value),eJ h (.lit x)=true) /\
 (eJ h AV.al=true) /\
 (∀(sz0:Nat) (es0:List AV),eJ h (.ro sz0 es0)=true) /\
 (∀(x:AV),eJ h (.aq x)=true) /\
 (∀(i o n:Nat),eJ h (.sl i o n)=(hget h i).isSome) /\
 (∀(i j f:Nat),eJ h (.ptr i j f)=(hget h i).isSome) /\
 (∀(i f:Nat),eJ h (.aa i f)=(hget h i).isSome) /\
 (∀(cs:List AV),eJ h (.agg cs)=cs.all (dh h)) /\
 (∀(cs:List AV),eJ h (.af cs)=cs.all (eu h)) /\
 (∀(b:Bool) (x:AV),eJ h (.gd b x)=false) /\
 (∀(f:Nat) (cs:List AV),eJ h (.aK f cs)=false):=
 ⟨rfl,λ_=>rfl,λ_ _=>rfl,λ_ _=>rfl,λ_ _ _=>rfl,λ_=>rfl,λ_=>rfl,rfl,λ_ _=>rfl,λ_=>rfl,λ_ _ _=>rfl,λ_ _ _=>rfl,λ_ _=>rfl,λ_=>rfl,λ_=>rfl,λ_ _=>rfl,λ_ _=>rfl⟩
theorem aaD :
 (stripV  AV.undef=AV.undef) /\
 (∀(b:Bool),stripV  (.bool b)=(.bool b)) /\
 (∀(k:IntKind) (n:Int),stripV  (.int k n)=(.int k n)) /\
 (∀(k:FloatKind) (n:Nat),stripV  (.fl k n)=(.fl k n)) /\
 (∀(k:FloatKind) (a b:Nat),stripV  (.cx k a b)=(.cx k a b)) /\
 (∀(l:List UInt8),stripV  (.str l)=(.str l)) /\
 (∀(x:Value),stripV  (.lit x)=(.lit x)) /\
 (stripV  AV.al=AV.al) /\
 (∀(sz0:Nat) (es0:List AV),stripV  (.ro sz0 es0)=(.ro sz0 es0)) /\
 (∀(x:AV),stripV  (.aq x)=(.aq x)) /\
 (∀(i o n:Nat),stripV  (.sl i o n)=(.sl i o n)) /\
 (∀(i j f:Nat),stripV  (.ptr i j f)=(.ptr i j f)) /\
 (∀(i f:Nat),stripV  (.aa i f)=(.aa i f)) /\
 (∀(cs:List AV),stripV  (.agg cs)=(.agg cs)) /\
 (∀(cs:List AV),stripV  (.af cs)=(.af cs)) /\
 (∀(b:Bool) (x:AV),stripV  (.gd b x)=x) /\
 (∀(f:Nat) (cs:List AV),stripV  (.aK f cs)=.aK f cs):=
 ⟨rfl,λ_=>rfl,λ_ _=>rfl,λ_ _=>rfl,λ_ _ _=>rfl,λ_=>rfl,λ_=>rfl,rfl,λ_ _=>rfl,λ_=>rfl,λ_ _ _=>rfl,λ_ _ _=>rfl,λ_ _=>rfl,λ_=>rfl,λ_=>rfl,λ_ _=>rfl,λ_ _=>rfl⟩
theorem aaC (γ:Bool) :
 (aw γ AV.undef=True) /\
 (∀(b:Bool),aw γ (.bool b)=True) /\
 (∀(k:IntKind) (n:Int),aw γ (.int k n)=True) /\
 (∀(k:FloatKind) (n:Nat),aw γ (.fl k n)=True) /\
 (∀(k:FloatKind) (a b:Nat),aw γ (.cx k a b)=True) /\
 (∀(l:List UInt8),aw γ (.str l)=True) /\
 (∀(x:Value),aw γ (.lit x)=True) /\
 (aw γ AV.al=True) /\
 (∀(sz0:Nat) (es0:List AV),aw γ (.ro sz0 es0)=True) /\
 (∀(x:AV),aw γ (.aq x)=True) /\
 (∀(i o n:Nat),aw γ (.sl i o n)=True) /\
 (∀(i j f:Nat),aw γ (.ptr i j f)=True) /\
 (∀(i f:Nat),aw γ (.aa i f)=True) /\
 (∀(cs:List AV),aw γ (.agg cs)=True) /\
 (∀(cs:List AV),aw γ (.af cs)=True) /\
 (∀(b:Bool) (x:AV),aw γ (.gd b x)=(γ=true->b=true)) /\
 (∀(f:Nat) (cs:List AV),aw γ (.aK f cs)=True):=
 ⟨rfl,λ_=>rfl,λ_ _=>rfl,λ_ _=>rfl,λ_ _ _=>rfl,λ_=>rfl,λ_=>rfl,rfl,λ_ _=>rfl,λ_=>rfl,λ_ _ _=>rfl,λ_ _ _=>rfl,λ_ _=>rfl,λ_=>rfl,λ_=>rfl,λ_ _=>rfl,λ_ _=>rfl⟩
theorem M9 (st:St):(∀k,ev st (.t k)=(sget st.s k).getD .undef)/\(∀v,ev st (.c v)=v):=⟨λ_=>rfl,λ_=>rfl⟩
theorem V3 (st:St) (v:AV):(∀d,put st (some d) v=⟨(d,v)::st.s,st.h⟩)/\put st none v=st:=⟨λ_=>rfl,rfl⟩
theorem OG (w:Bool):(∀β,grd (some (.bool β)) w=some (β==w))/\(∀b β,grd (some (.gd b (.bool β))) w=some (b&&(β==w)))/\grd (some (.gd false .undef)) w=some false:=⟨λ_=>rfl,λb _=>by cases b<;>rfl,rfl⟩
theorem TK (st:St) (d:Nat) (W:aG):bZ st d W=⟨killS d st.s,bD (gB d st.h) d W⟩:=(rfl)
theorem QQ (id:Nat):(∀sz es,mg id (.arr sz es)=.arr sz es)/\(∀cs,mg id (.var cs)=.var (cs.map (killC id)))/\(∀kd l,mg id (.mp kd l)=.mp kd l):=⟨λ_ _=>rfl,λ_=>rfl,λ_ _=>rfl⟩
theorem Og (id sz:Nat) (es:List AV):(∀sz' es',nf id sz es (.arr sz' es')=.arr sz' es')/\(∀cs,nf id sz es (.var cs)=.var (cs.map (cy id sz es)))/\(∀kd l,nf id sz es (.mp kd l)=.mp kd l):=⟨λ_ _=>rfl,λ_=>rfl,λ_ _=>rfl⟩
theorem XY (id id':Nat):(∀sz es,mw id id' (.arr sz es)=.arr sz es)/\(∀cs,mw id id' (.var cs)=.var (cs.map λc=>cD id id' (killC id' c)))/\(∀kd l,mw id id' (.mp kd l)=.mp kd l):=⟨λ_ _=>rfl,λ_=>rfl,λ_ _=>rfl⟩
theorem Qs (ids keep:List Nat):(∀sz es,lD ids keep (.arr sz es)=.arr sz es)/\(∀cs,lD ids keep (.var cs)=.var (cs.map (cL ids keep)))/\(∀kd l,lD ids keep (.mp kd l)=.mp kd l):=⟨λ_ _=>rfl,λ_=>rfl,λ_ _=>rfl⟩
theorem PL (h:HP):(∀sz es,oV h (.arr sz es)=true)/\(∀cs,oV h (.var cs)=cs.all (dh h))/\(∀kd l,oV h (.mp kd l)=true):=⟨λ_ _=>rfl,λ_=>rfl,λ_ _=>rfl⟩
theorem NG (h:HP):(∀sz es,mf h (.arr sz es)=es.all flA)/\(∀cs,mf h (.var cs)=cs.all (de h))/\(∀kd (l:List (MK×AV)),mf h (.mp kd l)=l.all λp=>flA p.2):=⟨λ_ _=>rfl,λ_=>rfl,λ_ _=>rfl⟩
theorem PH (h:HP):kg h []=true/\(∀k W r,kg h ((k,W)::r)=(oV h W&&kg h r)):=⟨rfl,λ_ _ _=>rfl⟩
theorem NA (h:HP):flH h []=true/\(∀k W r,flH h ((k,W)::r)=(mf h W&&flH h r)):=⟨rfl,λ_ _ _=>rfl⟩
theorem TC:eK []=[]/\(∀k W r,eK ((k,W)::r)=k::eK r):=⟨rfl,λ_ _ _=>rfl⟩
theorem Uc (k:Nat):numbered k []=[]/\(∀x r,numbered k (x::r)=(k,x)::numbered (k+1) r):=⟨rfl,λ_ _=>rfl⟩
theorem XW (id id':Nat):renS id id' []=[]/\(∀k v r,renS id id' ((k,v)::r)=(k,eN id id' (kill id' v))::renS id id' r):=⟨rfl,λ_ _ _=>rfl⟩
theorem XV (id id':Nat):renH id id' []=[]/\(∀k v r,renH id id' ((k,v)::r)=(rn id id' k,mw id id' v)::renH id id' r):=⟨rfl,λ_ _ _=>rfl⟩
theorem aap (id id':Nat) (st:St):uO id id' st=⟨renS id id' st.s,renH id id' st.h⟩:=(rfl)
theorem aak (k id sz:Nat) (st:St):ze k id sz st=⟨(k,.sl id 0 0)::killS id st.s,bD (gB id st.h) id (.arr sz [])⟩:=(rfl)
theorem aaj (p f id sz:Nat) (cs:List AV) (st:St):zf p f id sz cs st=⟨killS id st.s,bD (bD (gB id st.h) id (.arr sz [])) p (.var ((cs.map (killC id)).set f (.sl id 0 0)))⟩:=(rfl)
def nk (b:Bool) (x y:Option (List AV)):Option (List AV):=match b with
 | true=>x
 | false=>y
def yY (W:Option aG) (sz o n:Nat):Option (List AV):=match W with
 | some (.arr sz' es)=>nk (sz'==sz) (some (aB es o n)) none
 | _=>none
theorem Pw {x y:Option (List AV)}:nk true x y=x:=(rfl)
theorem Pv {x y:Option (List AV)}:nk false x y=y:=(rfl)
theorem ZK {sz sz' o n:Nat} {es:List AV}:yY (some (.arr sz' es)) sz o n=nk (sz'==sz) (some (aB es o n)) none:=(rfl)
theorem xo {i j:Nat} {x y:Option (List AV)}:(if i=j then x else y)=nk (i==j) x y:=by
 by_cases h:i=j
 ·subst h;rw[if_pos rfl,show(i==i)=true by simp];rfl
 ·rw[if_neg h,show(i==j)=false by simp[h]];rfl
theorem ZJ (sz:Nat) (st:St):slE sz st .al=some []/\(∀sz' es,slE sz st (.ro sz' es)=nk (sz'==sz) (some es) none)/\(∀id o n,slE sz st (.sl id o n)=yY (hget st.h id) sz o n):=by
 refine⟨rfl,λsz' es=>?_,λid o n=>?_⟩
 ·rw[<-xo];rfl
 ·simp only[slE,yY];split
  ·rename_i e;rw[e];exact xo
  ·rename_i e;split
   ·rename_i e2;exact(e _ _ e2).elim
   rfl
def kB (b:Bool) (l:List Nat):List Nat:=match b with
 | true=>l
 | false=>[]
def keep1 (x a:AV):List Nat:=match x,a with
 | .aa p f,.aa p' f'=>kB (p==p'&&f==f') [p]
 | _,_=>[]
theorem Qq (l:List Nat):kB true l=l/\kB false l=[]:=⟨rfl,rfl⟩
theorem Qy (x a:AV) (xs as:List AV):keepL2 (x::xs) (a::as)=keep1 x a++keepL2 xs as:=by
 cases x<;>cases a<;>simp only[keepL2,keep1,ady]
 rename_i p f p' f';by_cases h1:p=p'
 ·by_cases h2:f=f'
  ·subst h1;subst h2;simp[kB]
  ·rw[if_pos h1,if_neg h2,show(p==p'&&f==f')=false by simp[h2]];rfl
 ·rw[if_neg h1,show(p==p'&&f==f')=false by simp[h1]];rfl
theorem Qz (as:List AV):keepL2 [] as=[]:=by simp[keepL2]
theorem QA (xs:List AV):keepL2 xs []=[]:=by cases xs<;>simp[keepL2]
theorem Qw:(∀(a:AV),keep1 AV.undef a=[]) /\
 (∀(b:Bool) (a:AV),keep1 (.bool b) a=[]) /\
 (∀(k:IntKind) (n:Int) (a:AV),keep1 (.int k n) a=[]) /\
 (∀(k:FloatKind) (n:Nat) (a:AV),keep1 (.fl k n) a=[]) /\
 (∀(k:FloatKind) (m n:Nat) (a:AV),keep1 (.cx k m n) a=[]) /\
 (∀(l:List UInt8) (a:AV),keep1 (.str l) a=[]) /\
 (∀(v:Value) (a:AV),keep1 (.lit v) a=[]) /\
 (∀(a:AV),keep1 AV.al a=[]) /\
 (∀(sz:Nat) (es:List AV) (a:AV),keep1 (.ro sz es) a=[]) /\
 (∀(x:AV) (a:AV),keep1 (.aq x) a=[]) /\
 (∀(i o n:Nat) (a:AV),keep1 (.sl i o n) a=[]) /\
 (∀(i j f:Nat) (a:AV),keep1 (.ptr i j f) a=[]) /\
 (∀(cs:List AV) (a:AV),keep1 (.agg cs) a=[]) /\
 (∀(cs:List AV) (a:AV),keep1 (.af cs) a=[]) /\
 (∀(b:Bool) (x:AV) (a:AV),keep1 (.gd b x) a=[]) /\
 (∀(p f:Nat),keep1 (.aa p f) AV.undef=[]) /\
 (∀(p f:Nat) (b:Bool),keep1 (.aa p f) (.bool b)=[]) /\
 (∀(p f:Nat) (k:IntKind) (n:Int),keep1 (.aa p f) (.int k n)=[]) /\
 (∀(p f:Nat) (k:FloatKind) (n:Nat),keep1 (.aa p f) (.fl k n)=[]) /\
 (∀(p f:Nat) (k:FloatKind) (m n:Nat),keep1 (.aa p f) (.cx k m n)=[]) /\
 (∀(p f:Nat) (l:List UInt8),keep1 (.aa p f) (.str l)=[]) /\
 (∀(p f:Nat) (v:Value),keep1 (.aa p f) (.lit v)=[]) /\
 (∀(p f:Nat),keep1 (.aa p f) AV.al=[]) /\
 (∀(p f:Nat) (sz:Nat) (es:List AV),keep1 (.aa p f) (.ro sz es)=[]) /\
 (∀(p f:Nat) (x:AV),keep1 (.aa p f) (.aq x)=[]) /\
 (∀(p f:Nat) (i o n:Nat),keep1 (.aa p f) (.sl i o n)=[]) /\
 (∀(p f:Nat) (i j f:Nat),keep1 (.aa p f) (.ptr i j f)=[]) /\
 (∀(p f:Nat) (cs:List AV),keep1 (.aa p f) (.agg cs)=[]) /\
 (∀(p f:Nat) (cs:List AV),keep1 (.aa p f) (.af cs)=[]) /\
 (∀(p f:Nat) (b:Bool) (x:AV),keep1 (.aa p f) (.gd b x)=[]) /\
 (∀(p f p' f':Nat),keep1 (.aa p f) (.aa p' f')=kB (p==p'&&f==f') [p]):=
 ⟨λ_=>rfl,λ_ _=>rfl,λ_ _ _=>rfl,λ_ _ _=>rfl,λ_ _ _ _=>rfl,λ_ _=>rfl,λ_ _=>rfl,λ_=>rfl,λ_ _ _=>rfl,λ_ _=>rfl,λ_ _ _ _=>rfl,λ_ _ _ _=>rfl,λ_ _=>rfl,λ_ _=>rfl,λ_ _ _=>rfl,λ_ _=>rfl,λ_ _ _=>rfl,λ_ _ _ _=>rfl,λ_ _ _ _=>rfl,λ_ _ _ _ _=>rfl,λ_ _ _=>rfl,λ_ _ _=>rfl,λ_ _=>rfl,λ_ _ _ _=>rfl,λ_ _ _=>rfl,λ_ _ _ _ _=>rfl,λ_ _ _ _ _=>rfl,λ_ _ _=>rfl,λ_ _ _=>rfl,λ_ _ _ _=>rfl,λ_ _ _ _=>rfl⟩
def pQ (b:Bool) (l:List (Nat×AV)):List (Nat×AV):=match b with
 | true=>l
 | false=>[]
theorem I9 (l:List (Nat×AV)):pQ true l=l/\pQ false l=[]:=⟨rfl,rfl⟩
def back1 (s:List (Nat×AV)) (h:HP) (k:Nat) (a:AV):List (Nat×AV):=match a with
 | .sl i o n=>pQ ((hget h i).isSome&&(sget s k).isSome) [(k,.sl i o n)]
 | _=>[]
theorem Jk (s:List (Nat×AV)) (h:HP) (k:Nat) (xs:List AE) (a:AV) (as:List AV):backS s h (.t k::xs) (a::as)=back1 s h k a++backS s h xs as:=by
 cases a<;>simp only[backS,back1,ady]
 rename_i i o n;cases h1:(hget h i).isSome<;>cases h2:(sget s k).isSome<;>simp[pQ]
theorem Jh (s:List (Nat×AV)) (h:HP) (v:AV) (xs:List AE) (a:AV) (as:List AV):backS s h (.c v::xs) (a::as)=backS s h xs as:=by
 cases a<;>simp only[backS]
theorem Jj (s:List (Nat×AV)) (h:HP) (as:List AV):backS s h [] as=[]:=by simp[backS]
theorem Je:(∀(s:List (Nat×AV)) (h:HP) (k0:Nat),back1 s h k0 AV.undef=[]) /\
 (∀(s:List (Nat×AV)) (h:HP) (k0:Nat) (b:Bool),back1 s h k0 (.bool b)=[]) /\
 (∀(s:List (Nat×AV)) (h:HP) (k0:Nat) (k:IntKind) (n:Int),back1 s h k0 (.int k n)=[]) /\
 (∀(s:List (Nat×AV)) (h:HP) (k0:Nat) (k:FloatKind) (n:Nat),back1 s h k0 (.fl k n)=[]) /\
 (∀(s:List (Nat×AV)) (h:HP) (k0:Nat) (k:FloatKind) (m n:Nat),back1 s h k0 (.cx k m n)=[]) /\
 (∀(s:List (Nat×AV)) (h:HP) (k0:Nat) (l:List UInt8),back1 s h k0 (.str l)=[]) /\
 (∀(s:List (Nat×AV)) (h:HP) (k0:Nat) (v:Value),back1 s h k0 (.lit v)=[]) /\
 (∀(s:List (Nat×AV)) (h:HP) (k0:Nat),back1 s h k0 AV.al=[]) /\
 (∀(s:List (Nat×AV)) (h:HP) (k0:Nat) (sz:Nat) (es:List AV),back1 s h k0 (.ro sz es)=[]) /\
 (∀(s:List (Nat×AV)) (h:HP) (k0:Nat) (x:AV),back1 s h k0 (.aq x)=[]) /\
 (∀(s:List (Nat×AV)) (h:HP) (k0:Nat) (i j f:Nat),back1 s h k0 (.ptr i j f)=[]) /\
 (∀(s:List (Nat×AV)) (h:HP) (k0:Nat) (cs:List AV),back1 s h k0 (.agg cs)=[]) /\
 (∀(s:List (Nat×AV)) (h:HP) (k0:Nat) (cs:List AV),back1 s h k0 (.af cs)=[]) /\
 (∀(s:List (Nat×AV)) (h:HP) (k0:Nat) (b:Bool) (x:AV),back1 s h k0 (.gd b x)=[]) /\
 (∀(s:List (Nat×AV)) (h:HP) (k0:Nat) (i f:Nat),back1 s h k0 (.aa i f)=[]) /\
 (∀(s:List (Nat×AV)) (h:HP) (k0:Nat) (i o n:Nat),back1 s h k0 (.sl i o n)=pQ ((hget h i).isSome&&(sget s k0).isSome) [(k0,.sl i o n)]):=
 ⟨λ_ _ _=>rfl,λ_ _ _ _=>rfl,λ_ _ _ _ _=>rfl,λ_ _ _ _ _=>rfl,λ_ _ _ _ _ _=>rfl,λ_ _ _ _=>rfl,λ_ _ _ _=>rfl,λ_ _ _=>rfl,λ_ _ _ _ _=>rfl,λ_ _ _ _=>rfl,λ_ _ _ _ _ _=>rfl,λ_ _ _ _=>rfl,λ_ _ _ _=>rfl,λ_ _ _ _ _=>rfl,λ_ _ _ _ _=>rfl,λ_ _ _ _ _ _=>rfl⟩
theorem HD (st:St) (h:HP) (args:List AE) (h':HP) (as:List AV):iQ st h args h' as=⟨backS st.s h' args as++killSI (eK h++eK h') (keepL2 (args.map (ev st)) as) st.s,h'++dropH (eK h++eK h') (keepL2 (args.map (ev st)) as) st.h⟩:=(rfl)
theorem aaf (sz:Nat) (st:St):(∀l,srcE sz st (.str l)=nk (sz==1) (some (l.map ub)) none)/\srcE sz st .al=slE sz st .al/\(∀sz' es,srcE sz st (.ro sz' es)=slE sz st (.ro sz' es))/\(∀id o n,srcE sz st (.sl id o n)=slE sz st (.sl id o n)):=
 ⟨λl=>by rw[<-xo];rfl,rfl,λ_ _=>rfl,λ_ _ _=>rfl⟩
theorem Kl (x:AV):aL x=(cellsOf x).all isCell:=(rfl)
theorem Zg {α:Type} (l:List α) (k:Nat) (s:List α):cI l k s=l.take k++s++l.drop (k+s.length):=(rfl)
theorem U5:(∀x,packC [x]=x)/\packC []=.agg []/\(∀x y r,packC (x::y::r)=.agg (x::y::r)):=⟨λ_=>rfl,rfl,λ_ _ _=>rfl⟩
theorem VB (γ β:Bool) (x y:AV) :
 (∀p q,pick2 γ β x y (.bool p) (.bool q)=.ok ((γ=true->β=true->aw true x)/\(γ=true->β=false->aw true y)) (.bool (if β then p else q))) /\
 (∀p,pick2 γ β x y (.bool p) .undef=.ok (γ=true->β=true/\aw true x) (.bool p)) /\
 (∀q,pick2 γ β x y .undef (.bool q)=.ok (γ=true->β=false/\aw true y) (.bool q)):=⟨λ_ _=>rfl,λ_=>rfl,λ_=>rfl⟩
theorem VC (γ β:Bool) (x y:AV):pickR γ (.bool β) x y=pick2 γ β x y (stripV x) (stripV y):=(rfl)
theorem QG (st:St):(∀id o n,keepR st (.sl id o n)=keepSl st id o n (hget st.h id)) /\
 (∀b,keepR st (.bool b)=.ok (bM (.bool b)=true/\aL (.bool b)=true) (.bool b) st) /\
 (∀k n,keepR st (.int k n)=.ok (bM (.int k n)=true/\aL (.int k n)=true) (.int k n) st) /\
 (∀k n,keepR st (.fl k n)=.ok (bM (.fl k n)=true/\aL (.fl k n)=true) (.fl k n) st) /\
 (∀k a b,keepR st (.cx k a b)=.ok (bM (.cx k a b)=true/\aL (.cx k a b)=true) (.cx k a b) st) /\
 (∀l,keepR st (.str l)=.ok (bM (.str l)=true/\aL (.str l)=true) (.str l) st) /\
 (∀l,keepR st (.lit l)=.ok (bM (.lit l)=true/\aL (.lit l)=true) (.lit l) st) /\
 (keepR st .al=.ok (bM .al=true/\aL .al=true) .al st) /\
 (∀sz es,keepR st (.ro sz es)=.ok (bM (.ro sz es)=true/\aL (.ro sz es)=true) (.ro sz es) st) /\
 (∀x,keepR st (.aq x)=.ok (bM (.aq x)=true/\aL (.aq x)=true) (.aq x) st) /\
 (∀cs,keepR st (.agg cs)=.ok (bM (.agg cs)=true/\aL (.agg cs)=true) (.agg cs) st):=
 ⟨λ_ _ _=>rfl,λ_=>rfl,λ_ _=>rfl,λ_ _=>rfl,λ_ _ _=>rfl,λ_=>rfl,λ_=>rfl,rfl,λ_ _=>rfl,λ_=>rfl,λ_=>rfl⟩
theorem HV :
 (∀(c:Prop) d v,andR c (.ok d v)=.ok (c/\d) v) /\
 (∀(c:Prop),andR c (.fail)=.fail):=
 ⟨(λ_ _ _=>rfl),(λ_=>rfl)⟩
theorem PV :
 (∀(γ:Bool) (k:IntKind) (k':IntKind) (x:Int) (y:Int),intR γ (.shl) k k' x y=.ok (γ=true->0<=y) (.int k (k.wrap (x*2^(min y.toNat k.bits))))) /\
 (∀(γ:Bool) (k:IntKind) (k':IntKind) (x:Int) (y:Int),intR γ (.shr) k k' x y=.ok (γ=true->0<=y) (.int k (x.fdiv (2^(min y.toNat k.bits))))) /\
 (∀(γ:Bool) (k:IntKind) (k':IntKind) (x:Int) (y:Int),intR γ (.add) k k' x y=.ok (k=k') (.int k (k.wrap (x+y)))) /\
 (∀(γ:Bool) (k:IntKind) (k':IntKind) (x:Int) (y:Int),intR γ (.sub) k k' x y=.ok (k=k') (.int k (k.wrap (x-y)))) /\
 (∀(γ:Bool) (k:IntKind) (k':IntKind) (x:Int) (y:Int),intR γ (.mul) k k' x y=.ok (k=k') (.int k (k.wrap (x*y)))) /\
 (∀(γ:Bool) (k:IntKind) (k':IntKind) (x:Int) (y:Int),intR γ (.quo) k k' x y=.ok (k=k'/\(γ=true->y≠0)) (.int k (k.wrap (x.tdiv y)))) /\
 (∀(γ:Bool) (k:IntKind) (k':IntKind) (x:Int) (y:Int),intR γ (.rem) k k' x y=.ok (k=k'/\(γ=true->y≠0)) (.int k (x.tmod y))) /\
 (∀(γ:Bool) (k:IntKind) (k':IntKind) (x:Int) (y:Int),intR γ (.and) k k' x y=.ok (k=k') (.int k (bits .and k x y))) /\
 (∀(γ:Bool) (k:IntKind) (k':IntKind) (x:Int) (y:Int),intR γ (.or) k k' x y=.ok (k=k') (.int k (bits .or k x y))) /\
 (∀(γ:Bool) (k:IntKind) (k':IntKind) (x:Int) (y:Int),intR γ (.xor) k k' x y=.ok (k=k') (.int k (bits .xor k x y))) /\
 (∀(γ:Bool) (k:IntKind) (k':IntKind) (x:Int) (y:Int),intR γ (.andNot) k k' x y=.ok (k=k') (.int k (bits .andNot k x y))) /\
 (∀(γ:Bool) (k:IntKind) (k':IntKind) (x:Int) (y:Int),intR γ (.eql) k k' x y=.ok (k=k') (.bool (decide (x=y)))) /\
 (∀(γ:Bool) (k:IntKind) (k':IntKind) (x:Int) (y:Int),intR γ (.neq) k k' x y=.ok (k=k') (.bool (!decide (x=y)))) /\
 (∀(γ:Bool) (k:IntKind) (k':IntKind) (x:Int) (y:Int),intR γ (.lss) k k' x y=.ok (k=k') (.bool (decide (x<y)))) /\
 (∀(γ:Bool) (k:IntKind) (k':IntKind) (x:Int) (y:Int),intR γ (.leq) k k' x y=.ok (k=k') (.bool (decide (x<=y)))) /\
 (∀(γ:Bool) (k:IntKind) (k':IntKind) (x:Int) (y:Int),intR γ (.gtr) k k' x y=.ok (k=k') (.bool (decide (y<x)))) /\
 (∀(γ:Bool) (k:IntKind) (k':IntKind) (x:Int) (y:Int),intR γ (.geq) k k' x y=.ok (k=k') (.bool (decide (y<=x)))):=
 ⟨(λ_ _ _ _ _=>rfl),(λ_ _ _ _ _=>rfl),(λ_ _ _ _ _=>rfl),(λ_ _ _ _ _=>rfl),(λ_ _ _ _ _=>rfl),(λ_ _ _ _ _=>rfl),(λ_ _ _ _ _=>rfl),(λ_ _ _ _ _=>rfl),(λ_ _ _ _ _=>rfl),(λ_ _ _ _ _=>rfl),(λ_ _ _ _ _=>rfl),(λ_ _ _ _ _=>rfl),(λ_ _ _ _ _=>rfl),(λ_ _ _ _ _=>rfl),(λ_ _ _ _ _=>rfl),(λ_ _ _ _ _=>rfl),(λ_ _ _ _ _=>rfl)⟩
theorem aaz :
 (∀(γ:Bool) (x:List UInt8) (y:List UInt8),k9 γ (.add) x y=.ok (γ=true->x.length+y.length<=9223372036854775807) (.str (x++y))) /\
 (∀(γ:Bool) (x:List UInt8) (y:List UInt8),k9 γ (.eql) x y=.ok True (.bool (x==y))) /\
 (∀(γ:Bool) (x:List UInt8) (y:List UInt8),k9 γ (.neq) x y=.ok True (.bool (!(x==y)))) /\
 (∀(γ:Bool) (x:List UInt8) (y:List UInt8),k9 γ (.lss) x y=.ok True (.bool (Op.bytesLess x y))) /\
 (∀(γ:Bool) (x:List UInt8) (y:List UInt8),k9 γ (.leq) x y=.ok True (.bool (Op.bytesLess x y||x==y))) /\
 (∀(γ:Bool) (x:List UInt8) (y:List UInt8),k9 γ (.gtr) x y=.ok True (.bool (!(Op.bytesLess x y||x==y)))) /\
 (∀(γ:Bool) (x:List UInt8) (y:List UInt8),k9 γ (.geq) x y=.ok True (.bool (!Op.bytesLess x y))):=
 ⟨(λ_ _ _=>rfl),(λ_ _ _=>rfl),(λ_ _ _=>rfl),(λ_ _ _=>rfl),(λ_ _ _=>rfl),(λ_ _ _=>rfl),(λ_ _ _=>rfl)⟩
theorem ND :
 (∀(k:FloatKind) (k':FloatKind) (x:Nat) (y:Nat),jG (.add) k k' x y=.ok (k=k'/\(k.format.add x y).isSome=true) (.fl k ((k.format.add x y).getD 0))) /\
 (∀(k:FloatKind) (k':FloatKind) (x:Nat) (y:Nat),jG (.sub) k k' x y=.ok (k=k'/\(k.format.sub x y).isSome=true) (.fl k ((k.format.sub x y).getD 0))) /\
 (∀(k:FloatKind) (k':FloatKind) (x:Nat) (y:Nat),jG (.mul) k k' x y=.ok (k=k'/\(k.format.mul x y).isSome=true) (.fl k ((k.format.mul x y).getD 0))) /\
 (∀(k:FloatKind) (k':FloatKind) (x:Nat) (y:Nat),jG (.eql) k k' x y=.ok (k=k') (.bool (k.format.order x y==some .eq))) /\
 (∀(k:FloatKind) (k':FloatKind) (x:Nat) (y:Nat),jG (.neq) k k' x y=.ok (k=k') (.bool (k.format.order x y != some .eq))) /\
 (∀(k:FloatKind) (k':FloatKind) (x:Nat) (y:Nat),jG (.lss) k k' x y=.ok (k=k') (.bool (k.format.order x y==some .lt))) /\
 (∀(k:FloatKind) (k':FloatKind) (x:Nat) (y:Nat),jG (.gtr) k k' x y=.ok (k=k') (.bool (k.format.order x y==some .gt))) /\
 (∀(k:FloatKind) (k':FloatKind) (x:Nat) (y:Nat),jG (.leq) k k' x y=.ok (k=k') (.bool (k.format.order x y==some .lt||k.format.order x y==some .eq))) /\
 (∀(k:FloatKind) (k':FloatKind) (x:Nat) (y:Nat),jG (.geq) k k' x y=.ok (k=k') (.bool (k.format.order x y==some .gt||k.format.order x y==some .eq))):=
 ⟨(λ_ _ _ _=>rfl),(λ_ _ _ _=>rfl),(λ_ _ _ _=>rfl),(λ_ _ _ _=>rfl),(λ_ _ _ _=>rfl),(λ_ _ _ _=>rfl),(λ_ _ _ _=>rfl),(λ_ _ _ _=>rfl),(λ_ _ _ _=>rfl)⟩
theorem Lr :
 (∀(k:FloatKind) (k':FloatKind) (a:Nat) (b:Nat) (c:Nat) (d:Nat),mW (.add) k k' a b c d=.ok (k=k'/\(k.format.add a c).isSome=true/\(k.format.add b d).isSome=true) (.cx k ((k.format.add a c).getD 0) ((k.format.add b d).getD 0))) /\
 (∀(k:FloatKind) (k':FloatKind) (a:Nat) (b:Nat) (c:Nat) (d:Nat),mW (.sub) k k' a b c d=.ok (k=k'/\(k.format.sub a c).isSome=true/\(k.format.sub b d).isSome=true) (.cx k ((k.format.sub a c).getD 0) ((k.format.sub b d).getD 0))) /\
 (∀(k:FloatKind) (k':FloatKind) (a:Nat) (b:Nat) (c:Nat) (d:Nat),mW (.eql) k k' a b c d=.ok (k=k') (.bool (k.format.order a c==some .eq&&k.format.order b d==some .eq))) /\
 (∀(k:FloatKind) (k':FloatKind) (a:Nat) (b:Nat) (c:Nat) (d:Nat),mW (.neq) k k' a b c d=.ok (k=k') (.bool (!(k.format.order a c==some .eq&&k.format.order b d==some .eq)))):=
 ⟨(λ_ _ _ _ _ _=>rfl),(λ_ _ _ _ _ _=>rfl),(λ_ _ _ _ _ _=>rfl),(λ_ _ _ _ _ _=>rfl)⟩
theorem Jv :
 (∀(γ:Bool) (op:BinOp) k a k' b,binR γ op (.int k a) (.int k' b)=intR γ op k k' a b) /\
 (∀(γ:Bool) (op:BinOp) a b,binR γ op (.str a) (.str b)=k9 γ op a b) /\
 (∀(γ:Bool) (op:BinOp) k a k' b,binR γ op (.fl k a) (.fl k' b)=jG op k k' a b) /\
 (∀(γ:Bool) (op:BinOp) k a b k' c d,binR γ op (.cx k a b) (.cx k' c d)=mW op k k' a b c d):=
 ⟨(λ_ _ _ _ _ _=>rfl),(λ_ _ _ _=>rfl),(λ_ _ _ _ _ _=>rfl),(λ_ _ _ _ _ _ _ _=>rfl)⟩
theorem Jq :
 (∀(neg:Bool) a b,beqR neg (.bool a) (.bool b)=.ok True (.bool (if neg then !(a==b)else a==b))):=
 (λ_ _ _=>rfl)
theorem M4 :
 (∀a b,eqOK 0 (.bool a) (.bool b)=true)/\(∀k a k' b,eqOK 1 (.int k a) (.int k' b)=(k==k'))/\(∀a b,eqOK 2 (.str a) (.str b)=true):=⟨(λ_ _=>rfl),(λ_ _ _ _=>rfl),(λ_ _=>rfl)⟩
theorem M0 :
 (∀a b,eqC (.bool a) (.bool b)=(a==b))/\(∀k a k' b,eqC (.int k a) (.int k' b)=decide (a=b))/\(∀a b,eqC (.str a) (.str b)=(a==b)):=⟨(λ_ _=>rfl),(λ_ _ _ _=>rfl),(λ_ _=>rfl)⟩
theorem PB (k:IntKind):(k==k)=true:=by cases k<;>decide
theorem M6:eqOKs [] [] []=true:=(rfl)
theorem M5 (k:Nat) (ks:List Nat) (c:AV) (cs:List AV) (d:AV) (ds:List AV):eqOKs (k::ks) (c::cs) (d::ds)=(eqOK k c d&&eqOKs ks cs ds):=(rfl)
theorem M3:eqCs [] []=true:=(rfl)
theorem M1 (c:AV) (cs:List AV) (d:AV) (ds:List AV):eqCs (c::cs) (d::ds)=(eqC c d&&eqCs cs ds):=(rfl)
theorem HA (γ neg:Bool) (ks:List Nat) (cs ds:List AV):aeqR γ neg ks (.agg cs) (.agg ds)=.ok (γ=true->eqOKs ks cs ds=true) (.bool (if neg then !(eqCs cs ds)else eqCs cs ds)):=(rfl)
theorem Iy (γ:Bool) (st:St) (neg:Bool) (ks:List Nat) (x y:AE):avalR γ st (.od neg ks x y)=andR (aw γ (ev st x)) (andR (aw γ (ev st y)) (aeqR γ neg ks (stripV (ev st x)) (stripV (ev st y)))):=(rfl)
theorem abp :
 (∀b,unR (.not) (.bool b)=.ok True (.bool (!b))) /\
 (∀k n,unR (.neg) (.int k n)=.ok True (.int k (k.wrap (0-n)))) /\
 (∀k n,unR (.xor) (.int k n)=.ok True (.int k (bits .xor k (if k.signed then -1 else k.max) n))):=
 ⟨(λ_=>rfl),(λ_ _=>rfl),(λ_ _=>rfl)⟩
theorem Lm :
 (∀(k:IntKind) u1 n,cviR k (.int u1 n)=.ok True (.int k (k.wrap n))):=
 (λ_ _ _=>rfl)
theorem KO :
 (∀(k:FloatKind) u1 n,ss k (.int u1 n)=.ok True (.fl k (k.nearest n))):=
 (λ_ _ _=>rfl)
theorem KJ :
 (∀(γ:Bool) (k:IntKind) s b,cfiR γ k (.fl s b)=.ok (γ=true->(floatToIntVal s b k).isSome=true) (.int k ((floatToIntVal s b k).getD 0))):=
 (λ_ _ _ _=>rfl)
theorem Lg :
 (∀s,cstR (.str s)=.ok True (.str s)):=
 (λ_=>rfl)
theorem J8 :
 (∀(γ:Bool) es,btsR γ (some es)=.ok (γ=true->jC es=true) (.str (bytesOf es))) /\
 (∀(γ:Bool),btsR γ (none)=.fail):=
 ⟨(λ_ _=>rfl),(λ_=>rfl)⟩
theorem K8 :
 (∀k a k' b,cplxR (.fl k a) (.fl k' b)=.ok (k=k') (.cx k a b)):=
 (λ_ _ _ _=>rfl)
theorem XP :
 (∀k a u1,reR (.cx k a u1)=.ok True (.fl k a)):=
 (λ_ _ _=>rfl)
theorem PE :
 (∀k u1 b,tr (.cx k u1 b)=.ok True (.fl k b)):=
 (λ_ _ _=>rfl)
theorem Sy :
 (∀l,lenR (true) (.str l)=.ok True (.int .i64 l.length)) /\
 (∀u1 es,lenR (false) (.ro u1 es)=.ok True (.int .i64 es.length)) /\
 (∀u1 u2 n,lenR (false) (.sl u1 u2 n)=.ok True (.int .i64 n)) /\
 (lenR (false) (.al)=.ok True (.int .i64 0)):=
 ⟨(λ_=>rfl),(λ_ _=>rfl),(λ_ _ _=>rfl),rfl⟩
theorem Tr :
 (∀(mx:Bool) k a u1 b,mmR mx (.int k a) (.int u1 b)=.ok True (.int k (if mx then(if b > a then b else a)else(if b<a then b else a)))):=
 (λ_ _ _ _ _=>rfl)
theorem Na :
 (∀(i:Nat) vs,extR (.af vs) i=.ok (i<vs.length) (vs.getD i .undef)):=
 (λ_ _=>rfl)
theorem TN :
 (∀e,nilcR (.aq e)=.ok True (.aq e)) /\
 (∀id f,nilcR (.aa id f)=.ok True (.aa id f)):=
 ⟨(λ_=>rfl),(λ_ _=>rfl)⟩
theorem Pu :
 (∀(γ:Bool) (sz:Nat) (id:Nat) (off:Nat) (n:Nat) (i:Int) sz' u1,idxW γ sz (some (.arr sz' u1)) id off n i=.ok ((γ=true->0<=i/\i<n)/\0<sz/\sz'=sz) (.ptr id (off+i.toNat) 0)):=
 (λ_ _ _ _ _ _ _ _=>rfl)
theorem Ps :
 (∀(γ:Bool) (st:St) (sz:Nat) sz' es u1 i,idxR γ st sz (.ro sz' es) (.int u1 i)=.ok ((γ=true->0<=i/\i<es.length)/\0<sz/\sz'=sz) (.aq (nth es i.toNat))) /\
 (∀(γ:Bool) (st:St) (sz:Nat) id off n u1 i,idxR γ st sz (.sl id off n) (.int u1 i)=idxW γ sz (hget st.h id) id off n i):=
 ⟨(λ_ _ _ _ _ _ _=>rfl),(λ_ _ _ _ _ _ _ _=>rfl)⟩
theorem ZG :
 (∀(γ:Bool) l u1 i,sidxR γ (.str l) (.int u1 i)=.ok (γ=true->0<=i/\i<l.length) (.int .u8 (l.getD i.toNat 0).toNat)):=
 (λ_ _ _ _=>rfl)
theorem Sk :
 (∀(γ:Bool) (n:Nat) (cs:List AV),ldcR γ (true) n cs=.ok (γ=true->n<=cs.length) (.agg (cs.take n))) /\
 (∀(γ:Bool) (n:Nat) (cs:List AV),ldcR γ (false) n cs=.ok (γ=true->0<cs.length) (cs.getD 0 .undef)):=
 ⟨(λ_ _ _=>rfl),(λ_ _ _=>rfl)⟩
theorem Sd :
 (∀(γ:Bool) (ag:Bool) (n:Nat) (i:Nat) (f:Nat) u1 es,tG γ ag n i f (some (.arr u1 es))=ldcR γ ag n ((cellsOf (nth es i)).drop f)):=
 (λ_ _ _ _ _ _ _=>rfl)
theorem Sj :
 (∀(γ:Bool) (ag:Bool) (n:Nat) (f:Nat) cs,ldV γ ag n f (some (.var cs))=ldcR γ ag n (cs.drop f)):=
 (λ_ _ _ _ _=>rfl)
theorem Si :
 (∀(γ:Bool) (st:St) (ag:Bool) (n:Nat) e,ldR γ st ag n (.aq e)=ldcR γ ag n (cellsOf e)) /\
 (∀(γ:Bool) (st:St) (ag:Bool) (n:Nat) id i f,ldR γ st ag n (.ptr id i f)=tG γ ag n i f (hget st.h id)) /\
 (∀(γ:Bool) (st:St) (ag:Bool) (n:Nat) id f,ldR γ st ag n (.aa id f)=ldV γ ag n f (hget st.h id)):=
 ⟨(λ_ _ _ _ _=>rfl),(λ_ _ _ _ _ _ _=>rfl),(λ_ _ _ _ _ _=>rfl)⟩
theorem I6 :
 (∀(γ:Bool) (n:Nat) (c:Prop) u1 l,rY γ n c (.int u1 l)=.ok (c/\(γ=true->0<=l/\l<=n)) l.toNat n):=
 (λ_ _ _ _ _=>rfl)
theorem I7 :
 (∀(γ:Bool) (n:Nat) (c:Prop) u1 h,rZ γ n c (.int u1 h)=.ok (c/\(γ=true->0<=h/\h<=n)) 0 h.toNat):=
 (λ_ _ _ _ _=>rfl)
theorem I8 :
 (∀(γ:Bool) (n:Nat) (c:Prop) (c':Prop) u1 l u2 h,r6 γ n c c' (.int u1 l) (.int u2 h)=.ok (c/\c'/\(γ=true->0<=l/\l<=h/\h<=n)) l.toNat h.toNat):=
 (λ_ _ _ _ _ _ _ _=>rfl)
theorem JP :
 (∀(γ:Bool) (st:St) (n:Nat),bndR γ st n (none) (none)=.ok True 0 n) /\
 (∀(γ:Bool) (st:St) (n:Nat) l,bndR γ st n (some l) (none)=rY γ n (aw γ (ev st l)) (stripV (ev st l))) /\
 (∀(γ:Bool) (st:St) (n:Nat) h,bndR γ st n (none) (some h)=rZ γ n (aw γ (ev st h)) (stripV (ev st h))) /\
 (∀(γ:Bool) (st:St) (n:Nat) l h,bndR γ st n (some l) (some h)=r6 γ n (aw γ (ev st l)) (aw γ (ev st h)) (stripV (ev st l)) (stripV (ev st h))):=
 ⟨(λ_ _ _=>rfl),(λ_ _ _ _=>rfl),(λ_ _ _ _=>rfl),(λ_ _ _ _ _=>rfl)⟩
theorem ZR :
 (∀(s:List UInt8) c l h,slcStrR s (.ok c l h)=.ok c (.str ((s.drop l).take (h-l)))) /\
 (∀(s:List UInt8),slcStrR s (.fail)=.fail):=
 ⟨(λ_ _ _ _=>rfl),(λ_=>rfl)⟩
theorem ZP :
 (∀(γ:Bool) (st:St) (lo:Option AE) (hi:Option AE) s,uK γ st lo hi (.str s)=slcStrR s (bndR γ st s.length lo hi)):=
 (λ_ _ _ _ _=>rfl)
theorem ZN :
 (∀c u1 u2,q8 (.ok c u1 u2)=.ok c .al) /\
 (q8 (.fail)=.fail):=
 ⟨(λ_ _ _=>rfl),rfl⟩
theorem ZO :
 (∀(sz:Nat) (sz':Nat) (es:List AV) c l h,q9 sz sz' es (.ok c l h)=.ok (sz'=sz/\c) (.ro sz (aB es l (h-l)))) /\
 (∀(sz:Nat) (sz':Nat) (es:List AV),q9 sz sz' es (.fail)=.fail):=
 ⟨(λ_ _ _ _ _ _=>rfl),(λ_ _ _=>rfl)⟩
theorem ZQ :
 (∀(sz:Nat) (id:Nat) (off:Nat) c l h sz' u1,slcSlR sz id off (some (.arr sz' u1)) (.ok c l h)=.ok (c/\sz'=sz) (.sl id (off+l) (h-l))):=
 (λ_ _ _ _ _ _ _ _=>rfl)
theorem ZM :
 (∀(γ:Bool) (st:St) (sz:Nat) (lo:Option AE) (hi:Option AE),slcAR γ st sz lo hi (.al)=q8 (bndR γ st 0 lo hi)) /\
 (∀(γ:Bool) (st:St) (sz:Nat) (lo:Option AE) (hi:Option AE) sz' es,slcAR γ st sz lo hi (.ro sz' es)=q9 sz sz' es (bndR γ st es.length lo hi)) /\
 (∀(γ:Bool) (st:St) (sz:Nat) (lo:Option AE) (hi:Option AE) id off n,slcAR γ st sz lo hi (.sl id off n)=slcSlR sz id off (hget st.h id) (bndR γ st n lo hi)):=
 ⟨(λ_ _ _ _ _=>rfl),(λ_ _ _ _ _ _ _=>rfl),(λ_ _ _ _ _ _ _ _=>rfl)⟩
theorem NS :
 (∀(off:Nat) (id:Nat) (i:Nat) (f:Nat) sz u1,sY off (some (.arr sz u1)) id i f=.ok (f+off<sz) (.ptr id i (f+off))):=
 (λ_ _ _ _ _ _=>rfl)
theorem NQ :
 (∀(γ:Bool) (off:Nat) (n:Nat) (cs:List AV),sX γ (true) off n cs=.ok ((γ=true->off+n<=cs.length)/\0<n) (.aq (.agg ((cs.drop off).take n)))) /\
 (∀(γ:Bool) (off:Nat) (n:Nat) (cs:List AV),sX γ (false) off n cs=.ok ((γ=true->off+n<=cs.length)/\0<n/\n=1/\isCell (cs.getD off .undef)=true) (.aq (cs.getD off .undef))):=
 ⟨(λ_ _ _ _=>rfl),(λ_ _ _ _=>rfl)⟩
theorem NP :
 (∀(γ:Bool) (st:St) (ag:Bool) (off:Nat) (n:Nat) e,mZ γ st ag off n (.aq e)=sX γ ag off n (cellsOf e)) /\
 (∀(γ:Bool) (st:St) (ag:Bool) (off:Nat) (n:Nat) id i f,mZ γ st ag off n (.ptr id i f)=sY off (hget st.h id) id i f) /\
 (∀(γ:Bool) (st:St) (ag:Bool) (off:Nat) (n:Nat) id f,mZ γ st ag off n (.aa id f)=.ok True (.aa id (f+off))):=
 ⟨(λ_ _ _ _ _ _=>rfl),(λ_ _ _ _ _ _ _ _=>rfl),(λ_ _ _ _ _ _ _=>rfl)⟩
theorem NR :
 (∀(γ:Bool) (ag:Bool) (off:Nat) (n:Nat) cs,fldR γ ag off n (.agg cs)=.ok ((γ=true->off+n<=cs.length)/\0<n) (if ag then .agg ((cs.drop off).take n)else cs.getD off .undef)):=
 (λ_ _ _ _ _=>rfl)
theorem IB :
 (∀(γ:Bool) (st:St) x,avalR γ st (.ij x)=andR (aw γ (ev st x)) (.ok True (stripV (ev st x)))) /\
 (∀(γ:Bool) (st:St) c x y,avalR γ st (.pick c x y)=andR (aw γ (ev st c)) (pickR γ (stripV (ev st c)) (ev st x) (ev st y))) /\
 (∀(γ:Bool) (st:St) op x y,avalR γ st (.bin op x y)=andR (aw γ (ev st x)) (andR (aw γ (ev st y)) (binR γ op (stripV (ev st x)) (stripV (ev st y))))) /\
 (∀(γ:Bool) (st:St) neg x y,avalR γ st (.beq neg x y)=andR (aw γ (ev st x)) (andR (aw γ (ev st y)) (beqR neg (stripV (ev st x)) (stripV (ev st y))))) /\
 (∀(γ:Bool) (st:St) op x,avalR γ st (.un op x)=andR (aw γ (ev st x)) (unR op (stripV (ev st x)))) /\
 (∀(γ:Bool) (st:St) k x,avalR γ st (.qb k x)=andR (aw γ (ev st x)) (cviR k (stripV (ev st x)))) /\
 (∀(γ:Bool) (st:St) k x,avalR γ st (.p5 k x)=andR (aw γ (ev st x)) (ss k (stripV (ev st x)))) /\
 (∀(γ:Bool) (st:St) k x,avalR γ st (.p4 k x)=andR (aw γ (ev st x)) (cfiR γ k (stripV (ev st x)))) /\
 (∀(γ:Bool) (st:St) x,avalR γ st (.p9 x)=andR (aw γ (ev st x)) (cstR (stripV (ev st x)))) /\
 (∀(γ:Bool) (st:St) x,avalR γ st (.pW x)=andR (aw γ (ev st x)) (btsR γ (slE 1 st (stripV (ev st x))))) /\
 (∀(γ:Bool) (st:St) x y,avalR γ st (.p8 x y)=andR (aw γ (ev st x)) (andR (aw γ (ev st y)) (cplxR (stripV (ev st x)) (stripV (ev st y))))) /\
 (∀(γ:Bool) (st:St) x,avalR γ st (.re x)=andR (aw γ (ev st x)) (reR (stripV (ev st x)))) /\
 (∀(γ:Bool) (st:St) x,avalR γ st (.im x)=andR (aw γ (ev st x)) (tr (stripV (ev st x)))) /\
 (∀(γ:Bool) (st:St) str x,avalR γ st (.len str x)=andR (aw γ (ev st x)) (lenR str (stripV (ev st x)))) /\
 (∀(γ:Bool) (st:St) mx x y,avalR γ st (.mm mx x y)=andR (aw γ (ev st x)) (andR (aw γ (ev st y)) (mmR mx (stripV (ev st x)) (stripV (ev st y))))) /\
 (∀(γ:Bool) (st:St) x i,avalR γ st (.ext x i)=andR (aw γ (ev st x)) (extR (stripV (ev st x)) i)) /\
 (∀(γ:Bool) (st:St) x,avalR γ st (.qH x)=andR (aw γ (ev st x)) (nilcR (stripV (ev st x)))) /\
 (∀(γ:Bool) (st:St) sz x i,avalR γ st (.eT sz x i)=andR (aw γ (ev st x)) (andR (aw γ (ev st i)) (idxR γ st sz (stripV (ev st x)) (stripV (ev st i))))) /\
 (∀(γ:Bool) (st:St) x i,avalR γ st (.qX x i)=andR (aw γ (ev st x)) (andR (aw γ (ev st i)) (sidxR γ (stripV (ev st x)) (stripV (ev st i))))) /\
 (∀(γ:Bool) (st:St) ag n x,avalR γ st (.ld ag n x)=andR (aw γ (ev st x)) (ldR γ st ag n (stripV (ev st x)))) /\
 (∀(γ:Bool) (st:St) x lo hi,avalR γ st (.ra x lo hi)=andR (aw γ (ev st x)) (uK γ st lo hi (stripV (ev st x)))) /\
 (∀(γ:Bool) (st:St) sz x lo hi,avalR γ st (.q7 sz x lo hi)=andR (aw γ (ev st x)) (slcAR γ st sz lo hi (stripV (ev st x)))) /\
 (∀(γ:Bool) (st:St) ag off n x,avalR γ st (.qk ag off n x)=andR (aw γ (ev st x)) (mZ γ st ag off n (stripV (ev st x)))) /\
 (∀(γ:Bool) (st:St) ag off n x,avalR γ st (.qj ag off n x)=andR (aw γ (ev st x)) (fldR γ ag off n (stripV (ev st x)))):=
 ⟨(λ_ _ _=>rfl),(λ_ _ _ _ _=>rfl),(λ_ _ _ _ _=>rfl),(λ_ _ _ _ _=>rfl),(λ_ _ _ _=>rfl),(λ_ _ _ _=>rfl),(λ_ _ _ _=>rfl),(λ_ _ _ _=>rfl),(λ_ _ _=>rfl),(λ_ _ _=>rfl),(λ_ _ _ _=>rfl),(λ_ _ _=>rfl),(λ_ _ _=>rfl),(λ_ _ _ _=>rfl),(λ_ _ _ _ _=>rfl),(λ_ _ _ _=>rfl),(λ_ _ _=>rfl),(λ_ _ _ _ _=>rfl),(λ_ _ _ _=>rfl),(λ_ _ _ _ _=>rfl),(λ_ _ _ _ _=>rfl),(λ_ _ _ _ _ _=>rfl),(λ_ _ _ _ _ _=>rfl),(λ_ _ _ _ _ _=>rfl)⟩
theorem JD (γ:Bool) (st:St) (cs:List AV):bldR γ st [] cs=.ok True (.agg cs):=(rfl)
theorem JC (γ:Bool) (st:St) (o n:Nat) (x:AE) (r:List (Nat×Nat×AE)) (cs:List AV) :
    bldR γ st ((o,n,x)::r) cs=andR (aw γ (ev st x)) (andR (γ=true->aL (stripV (ev st x))=true/\(cellsOf (stripV (ev st x))).length=n/\o+n<=cs.length) (bldR γ st r (cs.take o++cellsOf (stripV (ev st x))++cs.drop (o+n)))):=(rfl)
theorem Iz (γ:Bool) (st:St) (z:List AV) (ps:List (Nat×Nat×AE)):avalR γ st (.ot z ps)=bldR γ st ps z:=(rfl)
theorem IC (γ:Bool) (st:St) (len sz:Nat) (x i:AE):avalR γ st (.qt len sz x i)=andR (aw γ (ev st x)) (andR (aw γ (ev st i)) (idxPR γ len sz (stripV (ev st x)) (stripV (ev st i)))):=(rfl)
theorem ID (γ:Bool) (st:St) (len:Nat) (x i:AE):avalR γ st (.qu len x i)=andR (aw γ (ev st x)) (andR (aw γ (ev st i)) (idxVR γ len (stripV (ev st x)) (stripV (ev st i)))):=(rfl)
theorem IK (γ:Bool) (st:St) (neg:Bool) (x:AE):avalR γ st (.px neg x)=andR (aw γ (ev st x)) (snilR γ st neg (stripV (ev st x))):=(rfl)
theorem Pp (γ:Bool) (len sz:Nat) (cs:List AV) (k:IntKind) (i:Int):idxPR γ len sz (.aq (.agg cs)) (.int k i)=.ok ((γ=true->0<=i/\i<len/\i<cs.length)/\sz=1/\isCell (cs.getD i.toNat .undef)=true) (.aq (cs.getD i.toNat .undef)):=(rfl)
theorem Pq (γ:Bool) (len sz id f:Nat) (k:IntKind) (i:Int):idxPR γ len sz (.aa id f) (.int k i)=.ok (γ=true->0<=i/\i<len) (.aa id (f+i.toNat*sz)):=(rfl)
theorem Pt (γ:Bool) (len:Nat) (cs:List AV) (k:IntKind) (i:Int):idxVR γ len (.agg cs) (.int k i)=.ok (γ=true->0<=i/\i<len/\i<cs.length) (cs.getD i.toNat .undef):=(rfl)
theorem ZY (γ neg:Bool) (n sz:Nat) (es:List AV):uM γ neg n (some (.arr sz es))=.ok (γ=true->0<n) (.bool neg):=(rfl)
theorem IE (γ:Bool) (st:St) (neg:Bool) (x:AE):avalR γ st (.oW neg x)=andR (aw γ (ev st x)) (inilR γ neg (stripV (ev st x))):=(rfl)
theorem IH (γ:Bool) (st:St) (t:TypeId) (x:AE):avalR γ st (.qC t x)=andR (aw γ (ev st x)) (mkiR t (stripV (ev st x))):=(rfl)
theorem IA (γ:Bool) (st:St) (x:AE):avalR γ st (.qc x)=andR (aw γ (ev st x)) (sE (stripV (ev st x))):=(rfl)
def nt (st:St):List AE->List AV
 | []=>[]
 | x::r=>ev st x::nt st r
theorem DJ (st:St):∀l,l.map (ev st)=nt st l
 | []=>rfl
 | x::r=>by rw[adi,DJ st r];rfl
theorem S6 (st:St):nt st []=[]/\(∀x r,nt st (x::r)=ev st x::nt st r):=⟨rfl,λ_ _=>rfl⟩
theorem abV:nV []=true/\(∀i f r,nV (.aa i f::r)=nV r):=⟨rfl,λ_ _ _=>rfl⟩
theorem IG (γ:Bool) (st:St) (f:Nat) (xs:List AE):avalR γ st (.qB f xs)=.ok (nV (nt st xs)=true) (.aK f (nt st xs)):=by rw[<-DJ];rfl
theorem Qv (f:Nat) (cs:List AV) (a:AV):keep1 (.aK f cs) a=[]:=(rfl)
theorem Qx (p f g:Nat) (cs:List AV):keep1 (.aa p f) (.aK g cs)=[]:=(rfl)
theorem Jd (s:List (Nat×AV)) (h:HP) (k0 f:Nat) (cs:List AV):back1 s h k0 (.aK f cs)=[]:=(rfl)
theorem Ln (k:IntKind) (n:Int):sE (.int k n)=.ok True (.str (Utf8.encode n).data.toList):=(rfl)
theorem Tf (t:TypeId):mkiR t (.agg [])=.ok True (.lit (.iface t (.agg #[]))):=(rfl)
theorem Te (t:TypeId) (k:IntKind) (n:Int):mkiR t (.int k n)=.ok True (.lit (.iface t (.int k n))):=(rfl)
theorem Th (id:Nat) (st:St) (sz bytes:Nat) (z:List AV) (n m:Int):mksR id st sz bytes z (.int .i64 n) (.int .i64 m)=.ok (0<=n/\m=n/\n<=16777216/\n*bytes<=16777216/\z.all noRefC=true/\z.length=sz) (.sl id 0 n.toNat) (bZ st id (.arr sz (List.replicate n.toNat (packC z)))):=(rfl)
theorem IJ (γ:Bool) (st:St) (neg:Bool) (x:AE):avalR γ st (.pc neg x)=andR (aw γ (ev st x)) (pnilR neg (stripV (ev st x))):=(rfl)
theorem VK (neg:Bool) (x:AV):pnilR neg (.aq x)=.ok True (.bool neg):=(rfl)
theorem VM (neg:Bool) (i f:Nat):pnilR neg (.aa i f)=.ok True (.bool neg):=(rfl)
theorem VL (neg:Bool):pnilR neg (.lit (.pointer none))=.ok True (.bool (!neg)):=(rfl)
theorem PR (γ neg:Bool):inilR γ neg (.lit .nilIface)=.ok True (.bool (if neg then false else true)):=by cases neg<;>simp[inilR,isNilV,isIfV]
theorem PQ (γ neg:Bool) (t:TypeId) (v:Value):inilR γ neg (.lit (.iface t v))=.ok True (.bool (if neg then true else false)):=by cases neg<;>simp[inilR,isNilV,isIfV]
theorem II (γ:Bool) (st:St) kd ok z (x i:AE):avalR γ st (.qD kd ok z x i)=andR (aw γ (ev st x)) (andR (aw γ (ev st i)) (mlkR st kd ok z (stripV (ev st x)) (stripV (ev st i)))):=(rfl)
theorem Td (l:List UInt8):mkOf (.str l)=some (.s l):=(rfl)
theorem Tc (k:IntKind) (n:Int):mkOf (.int k n)=some (.i k n):=(rfl)
theorem Tm (st:St) kd ok z id i f (x:AV):mlkR st kd ok z (.ptr id i f) x=mlkK st kd ok z id (mkOf x):=(rfl)
theorem Tk (st:St) kd ok z id k:mlkK st kd ok z id (some k)=mlkW kd ok z k (hget st.h id):=(rfl)
theorem Tn kd ok z k kd' (l:List (MK×AV)):mlkW kd ok z k (some (.mp kd' l))=.ok (kd'=kd/\MK.ok kd k) (qE ok z (mfind l k)):=(rfl)
theorem Tu (z:AV) (o:Option AV):qE true z o=.af [o.getD z,.bool o.isSome]:=(rfl)
theorem Tt (z:AV) (o:Option AV):qE false z o=o.getD z:=(rfl)
theorem Hg (b:List UInt8):MK.ok none (.s b)=True:=(rfl)
theorem Hf (k k':IntKind) (n:Int):MK.ok (some k) (.i k' n)=(k'=k):=(rfl)
theorem Tw (st:St) kd id i f (k v:AV):mupR st kd (.ptr id i f) k v=mupK st id kd (mkOf k) v:=(rfl)
theorem Tv (st:St) id kd k (v:AV):mupK st id kd (some k) v=mupW st id kd k v (hget st.h id):=(rfl)
theorem Tx (st:St) id kd k (v:AV) kd' (l:List (MK×AV)):mupW st id kd k v (some (.mp kd' l))=.ok (kd'=kd/\MK.ok kd k/\bM v=true) .undef ⟨st.s,bD st.h id (.mp kd (mput l k v))⟩:=(rfl)
theorem ML (id:Nat) (st:St) kd:effR id st (.nv kd)=.ok True (.ptr id 0 0) (bZ st id (.mp kd [])):=(rfl)
theorem MM (id:Nat) (st:St) kd x k v:effR id st (.nz kd x k v)=mupR st kd (ev st x) (ev st k) (ev st v):=(rfl)
theorem ZX :
 (∀(γ:Bool) (st:St) (neg:Bool),snilR γ st neg (.al)=.ok True (.bool (!neg))) /\
 (∀(γ:Bool) (st:St) (neg:Bool) id o n,snilR γ st neg (.sl id o n)=uM γ neg n (hget st.h id)) /\
 (∀(γ:Bool) (st:St) (neg:Bool) sz es,snilR γ st neg (.ro sz es)=.ok (γ=true->0<es.length/\0<sz) (.bool neg)):=
 ⟨(λ_ _ _=>rfl),(λ_ _ _ _ _ _=>rfl),(λ_ _ _ _ _=>rfl)⟩
theorem QH :
 (∀(st:St) (id:Nat) (o:Nat) (n:Nat) sz es,keepSl st id o n (some (.arr sz es))=.ok True (.ro sz (aB es o n)) (freeze st id)):=
 (λ_ _ _ _ _ _=>rfl)
theorem Yq :
 (∀(c:Prop) (v:AV) d vs st,rl2 c v (.ok d vs st)=.ok (c/\d) (v::vs) st) /\
 (∀(c:Prop) (v:AV),rl2 c v (.fail)=.fail):=
 ⟨(λ_ _ _ _ _=>rfl),(λ_ _=>rfl)⟩
theorem Yp :
 (∀(r:List AE) c v st1,yL r (.ok c v st1)=rl2 c v (keepLR r st1)) /\
 (∀(r:List AE),yL r (.fail)=.fail):=
 ⟨(λ_ _ _ _=>rfl),(λ_=>rfl)⟩
theorem J6 :
 (∀(id:Nat) (sz:Nat) c es st',pV id sz (.ok c es st')=.ok (c/\es.all (λe=>(cellsOf e).length==sz)=true) (.sl id 0 es.length) (bZ st' id (.arr sz es))) /\
 (∀(id:Nat) (sz:Nat),pV id sz (.fail)=.fail):=
 ⟨(λ_ _ _ _ _=>rfl),(λ_ _=>rfl)⟩
theorem Ik :
 (∀(st:St) (sz:Nat) (bytes:Nat) (id:Nat) (off:Nat) (n:Nat) (xs:List AV) sz' es,rT st sz bytes id off n xs (some (.arr sz' es))=.ok (xs.all aL=true/\sz'=sz/\(aB es off n).all aL=true/\(n+xs.length)*bytes<=140737488355328/\n+xs.length<=9223372036854775807) (.sl id 0 (n+xs.length)) (bZ st id (.arr sz (aB es off n++xs)))):=
 (λ_ _ _ _ _ _ _ _ _=>rfl)
theorem Ij :
 (∀(d:Nat) (st:St) (sz:Nat) (bytes:Nat) xs,appR d st sz bytes (.al) (some xs)=.ok (xs.all aL=true/\xs.length*bytes<=140737488355328/\xs.length<=9223372036854775807) (.sl d 0 xs.length) (bZ st d (.arr sz xs))) /\
 (∀(d:Nat) (st:St) (sz:Nat) (bytes:Nat) xs id off n,appR d st sz bytes (.sl id off n) (some xs)=rT st sz bytes id off n xs (hget st.h id)):=
 ⟨(λ_ _ _ _ _=>rfl),(λ_ _ _ _ _ _ _ _=>rfl)⟩
theorem aar :
 (∀(st:St) (n:Nat) (id:Nat) (i:Nat) (f:Nat) (v:AV) sz es,uP st n id i f v (some (.arr sz es))=.ok ((cellsOf v).length=n/\0<n/\f+n<=sz) .undef ⟨st.s,bD st.h id (.arr sz (es.set i (ko (nth es i) f v)))⟩):=
 (λ_ _ _ _ _ _ _ _=>rfl)
theorem aal :
 (∀(n:Nat) (id:Nat) (i:Nat) (f:Nat) (c:Prop) (v:AV) (st:St) d u st',rp n id i f c v st (.ok d u st')=.ok (c/\d) u st') /\
 (∀(n:Nat) (id:Nat) (i:Nat) (f:Nat) (c:Prop) (v:AV) (st:St),rp n id i f c v st (.fail)=.fail):=
 ⟨(λ_ _ _ _ _ _ _ _ _ _=>rfl),(λ_ _ _ _ _ _ _=>rfl)⟩
theorem aam :
 (∀(n:Nat) (id:Nat) (i:Nat) (f:Nat) c v st,rl n id i f (.ok c v st)=rp n id i f c v st (uP st n id i f v (hget st.h id))) /\
 (∀(n:Nat) (id:Nat) (i:Nat) (f:Nat),rl n id i f (.fail)=.fail):=
 ⟨(λ_ _ _ _ _ _ _=>rfl),(λ_ _ _ _=>rfl)⟩
theorem aaq :
 (∀(st:St) (n:Nat) (id:Nat) (f:Nat) (v:AV) cs,stV st n id f v (some (.var cs))=.ok (aL v=true/\(cellsOf v).length=n/\f+n<=cs.length) .undef ⟨st.s,bD st.h id (.var (cI cs f (cellsOf v)))⟩):=
 (λ_ _ _ _ _ _=>rfl)
theorem aao :
 (∀(st:St) (n:Nat) (v:AV) id i f,stR st n (.ptr id i f) v=rl n id i f (keepR st v)) /\
 (∀(st:St) (n:Nat) (v:AV) id f,stR st n (.aa id f) v=stV st n id f v (hget st.h id)):=
 ⟨(λ_ _ _ _ _ _=>rfl),(λ_ _ _ _ _=>rfl)⟩
theorem aat :
 (∀(st:St) (id:Nat) l,stbR st id (.str l)=.ok True (.sl id 0 l.length) (bZ st id (.arr 1 (l.map ub)))):=
 (λ_ _ _=>rfl)
theorem MJ :
 (∀(id:Nat) (st:St) z,effR id st (.alloc z)=.ok (z.all noRefC=true) (.aa id 0) (bZ st id (.var (z.map (killC id))))) /\
 (∀(id:Nat) (st:St) n x,effR id st (.box n x)=.ok (aL (ev st x)=true/\(cellsOf (ev st x)).length=n) (.aa id 0) (bZ st id (.var ((cellsOf (ev st x)).map (killC id))))) /\
 (∀(id:Nat) (st:St) sz xs,effR id st (.mU sz xs)=pV id sz (keepLR xs st)) /\
 (∀(id:Nat) (st:St) sz bytes s x,effR id st (.app sz bytes s x)=appR id st sz bytes (ev st s) (srcE sz st (ev st x))) /\
 (∀(id:Nat) (st:St) n x v,effR id st (.st n x v)=stR st n (ev st x) (ev st v)) /\
 (∀(id:Nat) (st:St) sz b z l c,effR id st (.nw sz b z l c)=mksR id st sz b z (ev st l) (ev st c)) /\
 (∀(id:Nat) (st:St) x,effR id st (.nN x)=stbR st id (ev st x)):=
 ⟨(λ_ _ _=>rfl),(λ_ _ _ _=>rfl),(λ_ _ _ _=>rfl),(λ_ _ _ _ _ _=>rfl),(λ_ _ _ _ _=>rfl),(λ_ _ _ _ _ _ _=>rfl),(λ_ _ _=>rfl)⟩
attribute [go_sem] IJ VK VM VL II Td Tc Tm Tk Tn Tu Tt Hg Hf Tw Tv Tx ML MM adl adf ad0 afb S6 abV IG Qv Qx Jd M9 V3 OG TK QQ Og XY Qs PL NG PH NA TC Uc XW XV aap aak aaj Pw Pv ZK Qq Qy Qz QA Qw I9 Jk Jh Jj Je HD aaf ZJ Kl Zg U5 VB VC QG HV PV aaz ND Lr Jv Jq M4 PB M0 M6 M5 M3 M1 HA Iy abp Lm KO KJ Lg J8 K8 XP PE Sy Tr Na TN Pu Ps ZG Sk Sd Sj Si I6 I7 I8 JP ZR ZP ZN ZO ZQ ZM NS NQ NP NR IB JD JC Iz IC ID IK Pq Pp Pt ZY ZX IE PR PQ IH Tf Te Th IA Ln QH Yq Yp J6 Ik Ij aar aal aam aaq aao aat MJ Lj Li Zj Zi JY QE QD JZ QJ QI QS N8 N7 Oh XU XT XZ Qu Qt Qr J2 J3 Jo JV J0 TP Nz P9 TR TQ Nx NF N2 N1 NB PG PF PK aaD aaC
end Go.Proofs.YtoalcafkffmiiaaGreatDoor.Eng
