/- The proof, part 7 of 32. -/
import Derived.Test.YtlkmppkcbhodaaaGreatDoorLooseReadsF
set_option linter.all false
namespace Go.Proofs.YtlkmppkcbhodaaaGreatDoor.Eng
def cu (b:Bool) (x:AV):AV:=match b with
 | true=>.undef
 | false=>x
def iC (b:Bool) (x y:AV):AV:=match b with
 | true=>x
 | false=>y
theorem fw {i j:Nat} {x:AV}:(if i=j then AV.undef else x)=cu (i==j) x:=by
 by_cases h:i=j
 ·subst h;rw[if_pos rfl,show(i==i)=true by simp];rfl
 ·rw[if_neg h,show(i==j)=false by simp[h]];rfl
theorem rq {i j:Nat} {x y:AV}:(if i=j then x else y)=iC (i==j) x y:=by
 by_cases h:i=j
 ·subst h;rw[if_pos rfl,show(i==i)=true by simp];rfl
 ·rw[if_neg h,show(i==j)=false by simp[h]];rfl
theorem iR {b:Bool} {x:AV}:(if b=true then AV.undef else x)=cu b x:=by cases b<;>rfl
theorem ru {b:Bool} {x y:AV}:(if b=true then x else y)=iC b x y:=by cases b<;>rfl
theorem Hj {x:AV}:cu true x=.undef:=(rfl)
theorem Hi {x:AV}:cu false x=x:=(rfl)
theorem aoG {x y:AV}:iC true x y=x:=(rfl)
theorem aoF {x y:AV}:iC false x y=y:=(rfl)
def borSl (W:Option aJ) (o n:Nat):AV:=match W with
 | some (.arr sz es)=>.ro sz (aI es o n)
 | _=>.undef
theorem Fm {sz o n:Nat} {es:List AV}:borSl (some (.arr sz es)) o n=.ro sz (aI es o n):=(rfl)
def keepO (W:Option aJ) (x y:AV):AV:=match W with
 | some _=>x
 | none=>y
theorem T1 {W:aJ} {x y:AV}:keepO (some W) x y=x:=(rfl)
theorem T0 {x y:AV}:keepO none x y=y:=(rfl)
def borV (h0 h:HP) (W:Option aJ) (f:Nat):AV:=match W,f with
 | some (.var cs),0=>.aw (packC (cs.map (bcell h0 h)))
 | _,_=>.undef
theorem Fo {h0 h:HP} {cs:List AV}:borV h0 h (some (.var cs)) 0=.aw (packC (cs.map (bcell h0 h))):=(rfl)
theorem T6 (id:Nat) :
 (killC id AV.undef=AV.undef) ∧
 (∀(b:Bool),killC id (.bool b)=(.bool b)) ∧
 (∀(k:IntKind) (n:Int),killC id (.int k n)=(.int k n)) ∧
 (∀(k:FloatKind) (n:Nat),killC id (.fl k n)=(.fl k n)) ∧
 (∀(k:FloatKind) (a b:Nat),killC id (.cx k a b)=(.cx k a b)) ∧
 (∀(l:List UInt8),killC id (.str l)=(.str l)) ∧
 (∀(x:Value),killC id (.lit x)=(.lit x)) ∧
 (killC id AV.aj=AV.aj) ∧
 (∀(sz0:Nat) (es0:List AV),killC id (.ro sz0 es0)=(.ro sz0 es0)) ∧
 (∀(x:AV),killC id (.aw x)=(.aw x)) ∧
 (∀(i o n:Nat),killC id (.sl i o n)=cu (i==id) (.sl i o n)) ∧
 (∀(i j f:Nat),killC id (.ptr i j f)=cu (i==id) (.ptr i j f)) ∧
 (∀(i f:Nat),killC id (.ab i f)=cu (i==id) (.ab i f)) ∧
 (∀(cs:List AV),killC id (.agg cs)=AV.undef) ∧
 (∀(cs:List AV),killC id (.ai cs)=AV.undef) ∧
 (∀(b:Bool) (x:AV),killC id (.gd b x)=AV.undef) ∧
 (∀(f:Nat) (cs:List AV),killC id (.aK f cs)=AV.undef):=
 ⟨rfl,fun _=>rfl,fun _ _=>rfl,fun _ _=>rfl,fun _ _ _=>rfl,fun _=>rfl,fun _=>rfl,rfl,fun _ _=>rfl,fun _=>rfl,fun _ _ _=>fw,fun _ _ _=>fw,fun _ _=>fw,fun _=>rfl,fun _=>rfl,fun _ _=>rfl,fun _ _=>rfl⟩
theorem T5 (id:Nat) :
 (killA id AV.undef=AV.undef) ∧
 (∀(b:Bool),killA id (.bool b)=(.bool b)) ∧
 (∀(k:IntKind) (n:Int),killA id (.int k n)=(.int k n)) ∧
 (∀(k:FloatKind) (n:Nat),killA id (.fl k n)=(.fl k n)) ∧
 (∀(k:FloatKind) (a b:Nat),killA id (.cx k a b)=(.cx k a b)) ∧
 (∀(l:List UInt8),killA id (.str l)=(.str l)) ∧
 (∀(x:Value),killA id (.lit x)=(.lit x)) ∧
 (killA id AV.aj=AV.aj) ∧
 (∀(sz0:Nat) (es0:List AV),killA id (.ro sz0 es0)=(.ro sz0 es0)) ∧
 (∀(x:AV),killA id (.aw x)=(.aw x)) ∧
 (∀(i o n:Nat),killA id (.sl i o n)=cu (i==id) (.sl i o n)) ∧
 (∀(i j f:Nat),killA id (.ptr i j f)=cu (i==id) (.ptr i j f)) ∧
 (∀(i f:Nat),killA id (.ab i f)=cu (i==id) (.ab i f)) ∧
 (∀(cs:List AV),killA id (.agg cs)=.agg (cs.map (killC id))) ∧
 (∀(cs:List AV),killA id (.ai cs)=AV.undef) ∧
 (∀(b:Bool) (x:AV),killA id (.gd b x)=AV.undef) ∧
 (∀(f:Nat) (cs:List AV),killA id (.aK f cs)=.aK f (cs.map (killC id))):=
 ⟨rfl,fun _=>rfl,fun _ _=>rfl,fun _ _=>rfl,fun _ _ _=>rfl,fun _=>rfl,fun _=>rfl,rfl,fun _ _=>rfl,fun _=>rfl,fun _ _ _=>fw,fun _ _ _=>fw,fun _ _=>fw,fun _=>rfl,fun _=>rfl,fun _ _=>rfl,fun _ _=>rfl⟩
theorem Ue (id:Nat) :
 (kill id AV.undef=AV.undef) ∧
 (∀(b:Bool),kill id (.bool b)=(.bool b)) ∧
 (∀(k:IntKind) (n:Int),kill id (.int k n)=(.int k n)) ∧
 (∀(k:FloatKind) (n:Nat),kill id (.fl k n)=(.fl k n)) ∧
 (∀(k:FloatKind) (a b:Nat),kill id (.cx k a b)=(.cx k a b)) ∧
 (∀(l:List UInt8),kill id (.str l)=(.str l)) ∧
 (∀(x:Value),kill id (.lit x)=(.lit x)) ∧
 (kill id AV.aj=AV.aj) ∧
 (∀(sz0:Nat) (es0:List AV),kill id (.ro sz0 es0)=(.ro sz0 es0)) ∧
 (∀(x:AV),kill id (.aw x)=(.aw x)) ∧
 (∀(i o n:Nat),kill id (.sl i o n)=cu (i==id) (.sl i o n)) ∧
 (∀(i j f:Nat),kill id (.ptr i j f)=cu (i==id) (.ptr i j f)) ∧
 (∀(i f:Nat),kill id (.ab i f)=cu (i==id) (.ab i f)) ∧
 (∀(cs:List AV),kill id (.agg cs)=.agg (cs.map (killC id))) ∧
 (∀(cs:List AV),kill id (.ai cs)=.ai (cs.map (killA id))) ∧
 (∀(b:Bool) (x:AV),kill id (.gd b x)=.gd b (killA id x)) ∧
 (∀(f:Nat) (cs:List AV),kill id (.aK f cs)=.aK f (cs.map (killC id))):=
 ⟨rfl,fun _=>rfl,fun _ _=>rfl,fun _ _=>rfl,fun _ _ _=>rfl,fun _=>rfl,fun _=>rfl,rfl,fun _ _=>rfl,fun _=>rfl,fun _ _ _=>fw,fun _ _ _=>fw,fun _ _=>fw,fun _=>rfl,fun _=>rfl,fun _ _=>rfl,fun _ _=>rfl⟩
theorem K5 (id sz:Nat) (es:List AV) :
 (ck id sz es AV.undef=AV.undef) ∧
 (∀(b:Bool),ck id sz es (.bool b)=(.bool b)) ∧
 (∀(k:IntKind) (n:Int),ck id sz es (.int k n)=(.int k n)) ∧
 (∀(k:FloatKind) (n:Nat),ck id sz es (.fl k n)=(.fl k n)) ∧
 (∀(k:FloatKind) (a b:Nat),ck id sz es (.cx k a b)=(.cx k a b)) ∧
 (∀(l:List UInt8),ck id sz es (.str l)=(.str l)) ∧
 (∀(x:Value),ck id sz es (.lit x)=(.lit x)) ∧
 (ck id sz es AV.aj=AV.aj) ∧
 (∀(sz0:Nat) (es0:List AV),ck id sz es (.ro sz0 es0)=(.ro sz0 es0)) ∧
 (∀(x:AV),ck id sz es (.aw x)=(.aw x)) ∧
 (∀(i o n:Nat),ck id sz es (.sl i o n)=iC (i==id) (.ro sz (aI es o n)) (.sl i o n)) ∧
 (∀(i j f:Nat),ck id sz es (.ptr i j f)=cu (i==id) (.ptr i j f)) ∧
 (∀(i f:Nat),ck id sz es (.ab i f)=cu (i==id) (.ab i f)) ∧
 (∀(cs:List AV),ck id sz es (.agg cs)=AV.undef) ∧
 (∀(cs:List AV),ck id sz es (.ai cs)=AV.undef) ∧
 (∀(b:Bool) (x:AV),ck id sz es (.gd b x)=AV.undef) ∧
 (∀(f:Nat) (cs:List AV),ck id sz es (.aK f cs)=AV.undef):=
 ⟨rfl,fun _=>rfl,fun _ _=>rfl,fun _ _=>rfl,fun _ _ _=>rfl,fun _=>rfl,fun _=>rfl,rfl,fun _ _=>rfl,fun _=>rfl,fun _ _ _=>rq,fun _ _ _=>fw,fun _ _=>fw,fun _=>rfl,fun _=>rfl,fun _ _=>rfl,fun _ _=>rfl⟩
theorem K4 (id sz:Nat) (es:List AV) :
 (cQ id sz es AV.undef=AV.undef) ∧
 (∀(b:Bool),cQ id sz es (.bool b)=(.bool b)) ∧
 (∀(k:IntKind) (n:Int),cQ id sz es (.int k n)=(.int k n)) ∧
 (∀(k:FloatKind) (n:Nat),cQ id sz es (.fl k n)=(.fl k n)) ∧
 (∀(k:FloatKind) (a b:Nat),cQ id sz es (.cx k a b)=(.cx k a b)) ∧
 (∀(l:List UInt8),cQ id sz es (.str l)=(.str l)) ∧
 (∀(x:Value),cQ id sz es (.lit x)=(.lit x)) ∧
 (cQ id sz es AV.aj=AV.aj) ∧
 (∀(sz0:Nat) (es0:List AV),cQ id sz es (.ro sz0 es0)=(.ro sz0 es0)) ∧
 (∀(x:AV),cQ id sz es (.aw x)=(.aw x)) ∧
 (∀(i o n:Nat),cQ id sz es (.sl i o n)=iC (i==id) (.ro sz (aI es o n)) (.sl i o n)) ∧
 (∀(i j f:Nat),cQ id sz es (.ptr i j f)=cu (i==id) (.ptr i j f)) ∧
 (∀(i f:Nat),cQ id sz es (.ab i f)=cu (i==id) (.ab i f)) ∧
 (∀(cs:List AV),cQ id sz es (.agg cs)=.agg (cs.map (ck id sz es))) ∧
 (∀(cs:List AV),cQ id sz es (.ai cs)=AV.undef) ∧
 (∀(b:Bool) (x:AV),cQ id sz es (.gd b x)=AV.undef) ∧
 (∀(f:Nat) (cs:List AV),cQ id sz es (.aK f cs)=.aK f (cs.map (ck id sz es))):=
 ⟨rfl,fun _=>rfl,fun _ _=>rfl,fun _ _=>rfl,fun _ _ _=>rfl,fun _=>rfl,fun _=>rfl,rfl,fun _ _=>rfl,fun _=>rfl,fun _ _ _=>rq,fun _ _ _=>fw,fun _ _=>fw,fun _=>rfl,fun _=>rfl,fun _ _=>rfl,fun _ _=>rfl⟩
theorem Lc (id sz:Nat) (es:List AV) :
 (bw id sz es AV.undef=AV.undef) ∧
 (∀(b:Bool),bw id sz es (.bool b)=(.bool b)) ∧
 (∀(k:IntKind) (n:Int),bw id sz es (.int k n)=(.int k n)) ∧
 (∀(k:FloatKind) (n:Nat),bw id sz es (.fl k n)=(.fl k n)) ∧
 (∀(k:FloatKind) (a b:Nat),bw id sz es (.cx k a b)=(.cx k a b)) ∧
 (∀(l:List UInt8),bw id sz es (.str l)=(.str l)) ∧
 (∀(x:Value),bw id sz es (.lit x)=(.lit x)) ∧
 (bw id sz es AV.aj=AV.aj) ∧
 (∀(sz0:Nat) (es0:List AV),bw id sz es (.ro sz0 es0)=(.ro sz0 es0)) ∧
 (∀(x:AV),bw id sz es (.aw x)=(.aw x)) ∧
 (∀(i o n:Nat),bw id sz es (.sl i o n)=iC (i==id) (.ro sz (aI es o n)) (.sl i o n)) ∧
 (∀(i j f:Nat),bw id sz es (.ptr i j f)=cu (i==id) (.ptr i j f)) ∧
 (∀(i f:Nat),bw id sz es (.ab i f)=cu (i==id) (.ab i f)) ∧
 (∀(cs:List AV),bw id sz es (.agg cs)=.agg (cs.map (ck id sz es))) ∧
 (∀(cs:List AV),bw id sz es (.ai cs)=.ai (cs.map (cQ id sz es))) ∧
 (∀(b:Bool) (x:AV),bw id sz es (.gd b x)=.gd b (cQ id sz es x)) ∧
 (∀(f:Nat) (cs:List AV),bw id sz es (.aK f cs)=.aK f (cs.map (ck id sz es))):=
 ⟨rfl,fun _=>rfl,fun _ _=>rfl,fun _ _=>rfl,fun _ _ _=>rfl,fun _=>rfl,fun _=>rfl,rfl,fun _ _=>rfl,fun _=>rfl,fun _ _ _=>rq,fun _ _ _=>fw,fun _ _=>fw,fun _=>rfl,fun _=>rfl,fun _ _=>rfl,fun _ _=>rfl⟩
theorem ak8 (id id':Nat) :
 (b6 id id' AV.undef=AV.undef) ∧
 (∀(b:Bool),b6 id id' (.bool b)=(.bool b)) ∧
 (∀(k:IntKind) (n:Int),b6 id id' (.int k n)=(.int k n)) ∧
 (∀(k:FloatKind) (n:Nat),b6 id id' (.fl k n)=(.fl k n)) ∧
 (∀(k:FloatKind) (a b:Nat),b6 id id' (.cx k a b)=(.cx k a b)) ∧
 (∀(l:List UInt8),b6 id id' (.str l)=(.str l)) ∧
 (∀(x:Value),b6 id id' (.lit x)=(.lit x)) ∧
 (b6 id id' AV.aj=AV.aj) ∧
 (∀(sz0:Nat) (es0:List AV),b6 id id' (.ro sz0 es0)=(.ro sz0 es0)) ∧
 (∀(x:AV),b6 id id' (.aw x)=(.aw x)) ∧
 (∀(i o n:Nat),b6 id id' (.sl i o n)=.sl (rn id id' i) o n) ∧
 (∀(i j f:Nat),b6 id id' (.ptr i j f)=.ptr (rn id id' i) j f) ∧
 (∀(i f:Nat),b6 id id' (.ab i f)=.ab (rn id id' i) f) ∧
 (∀(cs:List AV),b6 id id' (.agg cs)=AV.undef) ∧
 (∀(cs:List AV),b6 id id' (.ai cs)=AV.undef) ∧
 (∀(b:Bool) (x:AV),b6 id id' (.gd b x)=AV.undef) ∧
 (∀(f:Nat) (cs:List AV),b6 id id' (.aK f cs)=AV.undef):=
 ⟨rfl,fun _=>rfl,fun _ _=>rfl,fun _ _=>rfl,fun _ _ _=>rfl,fun _=>rfl,fun _=>rfl,rfl,fun _ _=>rfl,fun _=>rfl,fun _ _ _=>rfl,fun _ _ _=>rfl,fun _ _=>rfl,fun _=>rfl,fun _=>rfl,fun _ _=>rfl,fun _ _=>rfl⟩
theorem ak7 (id id':Nat) :
 (cI id id' AV.undef=AV.undef) ∧
 (∀(b:Bool),cI id id' (.bool b)=(.bool b)) ∧
 (∀(k:IntKind) (n:Int),cI id id' (.int k n)=(.int k n)) ∧
 (∀(k:FloatKind) (n:Nat),cI id id' (.fl k n)=(.fl k n)) ∧
 (∀(k:FloatKind) (a b:Nat),cI id id' (.cx k a b)=(.cx k a b)) ∧
 (∀(l:List UInt8),cI id id' (.str l)=(.str l)) ∧
 (∀(x:Value),cI id id' (.lit x)=(.lit x)) ∧
 (cI id id' AV.aj=AV.aj) ∧
 (∀(sz0:Nat) (es0:List AV),cI id id' (.ro sz0 es0)=(.ro sz0 es0)) ∧
 (∀(x:AV),cI id id' (.aw x)=(.aw x)) ∧
 (∀(i o n:Nat),cI id id' (.sl i o n)=.sl (rn id id' i) o n) ∧
 (∀(i j f:Nat),cI id id' (.ptr i j f)=.ptr (rn id id' i) j f) ∧
 (∀(i f:Nat),cI id id' (.ab i f)=.ab (rn id id' i) f) ∧
 (∀(cs:List AV),cI id id' (.agg cs)=.agg (cs.map (b6 id id'))) ∧
 (∀(cs:List AV),cI id id' (.ai cs)=AV.undef) ∧
 (∀(b:Bool) (x:AV),cI id id' (.gd b x)=AV.undef) ∧
 (∀(f:Nat) (cs:List AV),cI id id' (.aK f cs)=.aK f (cs.map (b6 id id'))):=
 ⟨rfl,fun _=>rfl,fun _ _=>rfl,fun _ _=>rfl,fun _ _ _=>rfl,fun _=>rfl,fun _=>rfl,rfl,fun _ _=>rfl,fun _=>rfl,fun _ _ _=>rfl,fun _ _ _=>rfl,fun _ _=>rfl,fun _=>rfl,fun _=>rfl,fun _ _=>rfl,fun _ _=>rfl⟩
theorem alc (id id':Nat) :
 (dw id id' AV.undef=AV.undef) ∧
 (∀(b:Bool),dw id id' (.bool b)=(.bool b)) ∧
 (∀(k:IntKind) (n:Int),dw id id' (.int k n)=(.int k n)) ∧
 (∀(k:FloatKind) (n:Nat),dw id id' (.fl k n)=(.fl k n)) ∧
 (∀(k:FloatKind) (a b:Nat),dw id id' (.cx k a b)=(.cx k a b)) ∧
 (∀(l:List UInt8),dw id id' (.str l)=(.str l)) ∧
 (∀(x:Value),dw id id' (.lit x)=(.lit x)) ∧
 (dw id id' AV.aj=AV.aj) ∧
 (∀(sz0:Nat) (es0:List AV),dw id id' (.ro sz0 es0)=(.ro sz0 es0)) ∧
 (∀(x:AV),dw id id' (.aw x)=(.aw x)) ∧
 (∀(i o n:Nat),dw id id' (.sl i o n)=.sl (rn id id' i) o n) ∧
 (∀(i j f:Nat),dw id id' (.ptr i j f)=.ptr (rn id id' i) j f) ∧
 (∀(i f:Nat),dw id id' (.ab i f)=.ab (rn id id' i) f) ∧
 (∀(cs:List AV),dw id id' (.agg cs)=.agg (cs.map (b6 id id'))) ∧
 (∀(cs:List AV),dw id id' (.ai cs)=.ai (cs.map (cI id id'))) ∧
 (∀(b:Bool) (x:AV),dw id id' (.gd b x)=.gd b (cI id id' x)) ∧
 (∀(f:Nat) (cs:List AV),dw id id' (.aK f cs)=.aK f (cs.map (b6 id id'))):=
 ⟨rfl,fun _=>rfl,fun _ _=>rfl,fun _ _=>rfl,fun _ _ _=>rfl,fun _=>rfl,fun _=>rfl,rfl,fun _ _=>rfl,fun _=>rfl,fun _ _ _=>rfl,fun _ _ _=>rfl,fun _ _=>rfl,fun _=>rfl,fun _=>rfl,fun _ _=>rfl,fun _ _=>rfl⟩
theorem TR (ids keep:List Nat) :
 (cp ids keep AV.undef=AV.undef) ∧
 (∀(b:Bool),cp ids keep (.bool b)=(.bool b)) ∧
 (∀(k:IntKind) (n:Int),cp ids keep (.int k n)=(.int k n)) ∧
 (∀(k:FloatKind) (n:Nat),cp ids keep (.fl k n)=(.fl k n)) ∧
 (∀(k:FloatKind) (a b:Nat),cp ids keep (.cx k a b)=(.cx k a b)) ∧
 (∀(l:List UInt8),cp ids keep (.str l)=(.str l)) ∧
 (∀(x:Value),cp ids keep (.lit x)=(.lit x)) ∧
 (cp ids keep AV.aj=AV.aj) ∧
 (∀(sz0:Nat) (es0:List AV),cp ids keep (.ro sz0 es0)=(.ro sz0 es0)) ∧
 (∀(x:AV),cp ids keep (.aw x)=(.aw x)) ∧
 (∀(i o n:Nat),cp ids keep (.sl i o n)=cu (memN i ids) (.sl i o n)) ∧
 (∀(i j f:Nat),cp ids keep (.ptr i j f)=cu (memN i ids) (.ptr i j f)) ∧
 (∀(i f:Nat),cp ids keep (.ab i f)=iC (memN i keep) (.ab i f) (cu (memN i ids) (.ab i f))) ∧
 (∀(cs:List AV),cp ids keep (.agg cs)=AV.undef) ∧
 (∀(cs:List AV),cp ids keep (.ai cs)=AV.undef) ∧
 (∀(b:Bool) (x:AV),cp ids keep (.gd b x)=AV.undef) ∧
 (∀(f:Nat) (cs:List AV),cp ids keep (.aK f cs)=AV.undef):=
 ⟨rfl,fun _=>rfl,fun _ _=>rfl,fun _ _=>rfl,fun _ _ _=>rfl,fun _=>rfl,fun _=>rfl,rfl,fun _ _=>rfl,fun _=>rfl,fun _ _ _=>iR,fun _ _ _=>iR,fun _ _=>(by rw[←iR,←ru];rfl),fun _=>rfl,fun _=>rfl,fun _ _=>rfl,fun _ _=>rfl⟩
theorem TQ (ids keep:List Nat) :
 (cS ids keep AV.undef=AV.undef) ∧
 (∀(b:Bool),cS ids keep (.bool b)=(.bool b)) ∧
 (∀(k:IntKind) (n:Int),cS ids keep (.int k n)=(.int k n)) ∧
 (∀(k:FloatKind) (n:Nat),cS ids keep (.fl k n)=(.fl k n)) ∧
 (∀(k:FloatKind) (a b:Nat),cS ids keep (.cx k a b)=(.cx k a b)) ∧
 (∀(l:List UInt8),cS ids keep (.str l)=(.str l)) ∧
 (∀(x:Value),cS ids keep (.lit x)=(.lit x)) ∧
 (cS ids keep AV.aj=AV.aj) ∧
 (∀(sz0:Nat) (es0:List AV),cS ids keep (.ro sz0 es0)=(.ro sz0 es0)) ∧
 (∀(x:AV),cS ids keep (.aw x)=(.aw x)) ∧
 (∀(i o n:Nat),cS ids keep (.sl i o n)=cu (memN i ids) (.sl i o n)) ∧
 (∀(i j f:Nat),cS ids keep (.ptr i j f)=cu (memN i ids) (.ptr i j f)) ∧
 (∀(i f:Nat),cS ids keep (.ab i f)=iC (memN i keep) (.ab i f) (cu (memN i ids) (.ab i f))) ∧
 (∀(cs:List AV),cS ids keep (.agg cs)=.agg (cs.map (cp ids keep))) ∧
 (∀(cs:List AV),cS ids keep (.ai cs)=AV.undef) ∧
 (∀(b:Bool) (x:AV),cS ids keep (.gd b x)=AV.undef) ∧
 (∀(f:Nat) (cs:List AV),cS ids keep (.aK f cs)=.aK f (cs.map (cp ids keep))):=
 ⟨rfl,fun _=>rfl,fun _ _=>rfl,fun _ _=>rfl,fun _ _ _=>rfl,fun _=>rfl,fun _=>rfl,rfl,fun _ _=>rfl,fun _=>rfl,fun _ _ _=>iR,fun _ _ _=>iR,fun _ _=>(by rw[←iR,←ru];rfl),fun _=>rfl,fun _=>rfl,fun _ _=>rfl,fun _ _=>rfl⟩
theorem TN (ids keep:List Nat) :
 (kI ids keep AV.undef=AV.undef) ∧
 (∀(b:Bool),kI ids keep (.bool b)=(.bool b)) ∧
 (∀(k:IntKind) (n:Int),kI ids keep (.int k n)=(.int k n)) ∧
 (∀(k:FloatKind) (n:Nat),kI ids keep (.fl k n)=(.fl k n)) ∧
 (∀(k:FloatKind) (a b:Nat),kI ids keep (.cx k a b)=(.cx k a b)) ∧
 (∀(l:List UInt8),kI ids keep (.str l)=(.str l)) ∧
 (∀(x:Value),kI ids keep (.lit x)=(.lit x)) ∧
 (kI ids keep AV.aj=AV.aj) ∧
 (∀(sz0:Nat) (es0:List AV),kI ids keep (.ro sz0 es0)=(.ro sz0 es0)) ∧
 (∀(x:AV),kI ids keep (.aw x)=(.aw x)) ∧
 (∀(i o n:Nat),kI ids keep (.sl i o n)=cu (memN i ids) (.sl i o n)) ∧
 (∀(i j f:Nat),kI ids keep (.ptr i j f)=cu (memN i ids) (.ptr i j f)) ∧
 (∀(i f:Nat),kI ids keep (.ab i f)=iC (memN i keep) (.ab i f) (cu (memN i ids) (.ab i f))) ∧
 (∀(cs:List AV),kI ids keep (.agg cs)=.agg (cs.map (cp ids keep))) ∧
 (∀(cs:List AV),kI ids keep (.ai cs)=.ai (cs.map (cS ids keep))) ∧
 (∀(b:Bool) (x:AV),kI ids keep (.gd b x)=.gd b (cS ids keep x)) ∧
 (∀(f:Nat) (cs:List AV),kI ids keep (.aK f cs)=.aK f (cs.map (cp ids keep))):=
 ⟨rfl,fun _=>rfl,fun _ _=>rfl,fun _ _=>rfl,fun _ _ _=>rfl,fun _=>rfl,fun _=>rfl,rfl,fun _ _=>rfl,fun _=>rfl,fun _ _ _=>iR,fun _ _ _=>iR,fun _ _=>(by rw[←iR,←ru];rfl),fun _=>rfl,fun _=>rfl,fun _ _=>rfl,fun _ _=>rfl⟩
theorem Fs (h:HP) :
 (borrowC h AV.undef=AV.undef) ∧
 (∀(b:Bool),borrowC h (.bool b)=(.bool b)) ∧
 (∀(k:IntKind) (n:Int),borrowC h (.int k n)=(.int k n)) ∧
 (∀(k:FloatKind) (n:Nat),borrowC h (.fl k n)=(.fl k n)) ∧
 (∀(k:FloatKind) (a b:Nat),borrowC h (.cx k a b)=(.cx k a b)) ∧
 (∀(l:List UInt8),borrowC h (.str l)=(.str l)) ∧
 (∀(x:Value),borrowC h (.lit x)=(.lit x)) ∧
 (borrowC h AV.aj=AV.aj) ∧
 (∀(sz0:Nat) (es0:List AV),borrowC h (.ro sz0 es0)=(.ro sz0 es0)) ∧
 (∀(x:AV),borrowC h (.aw x)=(.aw x)) ∧
 (∀(i o n:Nat),borrowC h (.sl i o n)=borSl (hget h i) o n) ∧
 (∀(i j f:Nat),borrowC h (.ptr i j f)=AV.undef) ∧
 (∀(i f:Nat),borrowC h (.ab i f)=AV.undef) ∧
 (∀(cs:List AV),borrowC h (.agg cs)=AV.undef) ∧
 (∀(cs:List AV),borrowC h (.ai cs)=AV.undef) ∧
 (∀(b:Bool) (x:AV),borrowC h (.gd b x)=AV.undef) ∧
 (∀(f:Nat) (cs:List AV),borrowC h (.aK f cs)=AV.undef):=
 ⟨rfl,fun _=>rfl,fun _ _=>rfl,fun _ _=>rfl,fun _ _ _=>rfl,fun _=>rfl,fun _=>rfl,rfl,fun _ _=>rfl,fun _=>rfl,fun _ _ _=>(by simp only[borrowC,borSl];split<;>simp_all),fun _ _ _=>rfl,fun _ _=>rfl,fun _=>rfl,fun _=>rfl,fun _ _=>rfl,fun _ _=>rfl⟩
theorem Ft (h:HP) :
 (borrow h AV.undef=AV.undef) ∧
 (∀(b:Bool),borrow h (.bool b)=(.bool b)) ∧
 (∀(k:IntKind) (n:Int),borrow h (.int k n)=(.int k n)) ∧
 (∀(k:FloatKind) (n:Nat),borrow h (.fl k n)=(.fl k n)) ∧
 (∀(k:FloatKind) (a b:Nat),borrow h (.cx k a b)=(.cx k a b)) ∧
 (∀(l:List UInt8),borrow h (.str l)=(.str l)) ∧
 (∀(x:Value),borrow h (.lit x)=(.lit x)) ∧
 (borrow h AV.aj=AV.aj) ∧
 (∀(sz0:Nat) (es0:List AV),borrow h (.ro sz0 es0)=(.ro sz0 es0)) ∧
 (∀(x:AV),borrow h (.aw x)=(.aw x)) ∧
 (∀(i o n:Nat),borrow h (.sl i o n)=borSl (hget h i) o n) ∧
 (∀(i j f:Nat),borrow h (.ptr i j f)=AV.undef) ∧
 (∀(i f:Nat),borrow h (.ab i f)=AV.undef) ∧
 (∀(cs:List AV),borrow h (.agg cs)=.agg (cs.map (borrowC h))) ∧
 (∀(cs:List AV),borrow h (.ai cs)=AV.undef) ∧
 (∀(b:Bool) (x:AV),borrow h (.gd b x)=AV.undef) ∧
 (∀(f:Nat) (cs:List AV),borrow h (.aK f cs)=AV.undef):=
 ⟨rfl,fun _=>rfl,fun _ _=>rfl,fun _ _=>rfl,fun _ _ _=>rfl,fun _=>rfl,fun _=>rfl,rfl,fun _ _=>rfl,fun _=>rfl,fun _ _ _=>(by simp only[borrow,borrowC,borSl];split<;>simp_all),fun _ _ _=>rfl,fun _ _=>rfl,fun _=>rfl,fun _=>rfl,fun _ _=>rfl,fun _ _=>rfl⟩
theorem D3 (h0 h:HP) :
 (bcell h0 h AV.undef=AV.undef) ∧
 (∀(b:Bool),bcell h0 h (.bool b)=(.bool b)) ∧
 (∀(k:IntKind) (n:Int),bcell h0 h (.int k n)=(.int k n)) ∧
 (∀(k:FloatKind) (n:Nat),bcell h0 h (.fl k n)=(.fl k n)) ∧
 (∀(k:FloatKind) (a b:Nat),bcell h0 h (.cx k a b)=(.cx k a b)) ∧
 (∀(l:List UInt8),bcell h0 h (.str l)=(.str l)) ∧
 (∀(x:Value),bcell h0 h (.lit x)=(.lit x)) ∧
 (bcell h0 h AV.aj=AV.aj) ∧
 (∀(sz0:Nat) (es0:List AV),bcell h0 h (.ro sz0 es0)=(.ro sz0 es0)) ∧
 (∀(x:AV),bcell h0 h (.aw x)=(.aw x)) ∧
 (∀(i o n:Nat),bcell h0 h (.sl i o n)=keepO (hget h0 i) AV.undef (borSl (hget h i) o n)) ∧
 (∀(i j f:Nat),bcell h0 h (.ptr i j f)=AV.undef) ∧
 (∀(i f:Nat),bcell h0 h (.ab i f)=AV.undef) ∧
 (∀(cs:List AV),bcell h0 h (.agg cs)=AV.undef) ∧
 (∀(cs:List AV),bcell h0 h (.ai cs)=AV.undef) ∧
 (∀(b:Bool) (x:AV),bcell h0 h (.gd b x)=AV.undef) ∧
 (∀(f:Nat) (cs:List AV),bcell h0 h (.aK f cs)=AV.undef):=
 ⟨rfl,fun _=>rfl,fun _ _=>rfl,fun _ _=>rfl,fun _ _ _=>rfl,fun _=>rfl,fun _=>rfl,rfl,fun _ _=>rfl,fun _=>rfl,fun _ _ _=>(by simp only[bcell,borrowC,borSl,keepO];split<;>(try split)<;>simp_all),fun _ _ _=>rfl,fun _ _=>rfl,fun _=>rfl,fun _=>rfl,fun _ _=>rfl,fun _ _=>rfl⟩
theorem Fj (h0 h:HP) :
 (borC h0 h AV.undef=AV.undef) ∧
 (∀(b:Bool),borC h0 h (.bool b)=(.bool b)) ∧
 (∀(k:IntKind) (n:Int),borC h0 h (.int k n)=(.int k n)) ∧
 (∀(k:FloatKind) (n:Nat),borC h0 h (.fl k n)=(.fl k n)) ∧
 (∀(k:FloatKind) (a b:Nat),borC h0 h (.cx k a b)=(.cx k a b)) ∧
 (∀(l:List UInt8),borC h0 h (.str l)=(.str l)) ∧
 (∀(x:Value),borC h0 h (.lit x)=(.lit x)) ∧
 (borC h0 h AV.aj=AV.aj) ∧
 (∀(sz0:Nat) (es0:List AV),borC h0 h (.ro sz0 es0)=(.ro sz0 es0)) ∧
 (∀(x:AV),borC h0 h (.aw x)=(.aw x)) ∧
 (∀(i o n:Nat),borC h0 h (.sl i o n)=keepO (hget h0 i) (.sl i o n) (borSl (hget h i) o n)) ∧
 (∀(i j f:Nat),borC h0 h (.ptr i j f)=keepO (hget h0 i) (.ptr i j f) AV.undef) ∧
 (∀(i f:Nat),borC h0 h (.ab i f)=keepO (hget h0 i) (.ab i f) (borV h0 h (hget h i) f)) ∧
 (∀(cs:List AV),borC h0 h (.agg cs)=AV.undef) ∧
 (∀(cs:List AV),borC h0 h (.ai cs)=AV.undef) ∧
 (∀(b:Bool) (x:AV),borC h0 h (.gd b x)=AV.undef) ∧
 (∀(f:Nat) (cs:List AV),borC h0 h (.aK f cs)=AV.undef):=
 ⟨rfl,fun _=>rfl,fun _ _=>rfl,fun _ _=>rfl,fun _ _ _=>rfl,fun _=>rfl,fun _=>rfl,rfl,fun _ _=>rfl,fun _=>rfl,fun _ _ _=>(by simp only[borC,borrowC,borSl,keepO];split<;>(try split)<;>simp_all),fun _ _ _=>(by simp only[borC,keepO];rfl),fun _ _=>(by simp only[borC,borV,keepO];rfl),fun _=>rfl,fun _=>rfl,fun _ _=>rfl,fun _ _=>rfl⟩
theorem Fp (h0 h:HP) :
 (bor h0 h AV.undef=AV.undef) ∧
 (∀(b:Bool),bor h0 h (.bool b)=(.bool b)) ∧
 (∀(k:IntKind) (n:Int),bor h0 h (.int k n)=(.int k n)) ∧
 (∀(k:FloatKind) (n:Nat),bor h0 h (.fl k n)=(.fl k n)) ∧
 (∀(k:FloatKind) (a b:Nat),bor h0 h (.cx k a b)=(.cx k a b)) ∧
 (∀(l:List UInt8),bor h0 h (.str l)=(.str l)) ∧
 (∀(x:Value),bor h0 h (.lit x)=(.lit x)) ∧
 (bor h0 h AV.aj=AV.aj) ∧
 (∀(sz0:Nat) (es0:List AV),bor h0 h (.ro sz0 es0)=(.ro sz0 es0)) ∧
 (∀(x:AV),bor h0 h (.aw x)=(.aw x)) ∧
 (∀(i o n:Nat),bor h0 h (.sl i o n)=keepO (hget h0 i) (.sl i o n) (borSl (hget h i) o n)) ∧
 (∀(i j f:Nat),bor h0 h (.ptr i j f)=keepO (hget h0 i) (.ptr i j f) AV.undef) ∧
 (∀(i f:Nat),bor h0 h (.ab i f)=keepO (hget h0 i) (.ab i f) (borV h0 h (hget h i) f)) ∧
 (∀(cs:List AV),bor h0 h (.agg cs)=.agg (cs.map (borC h0 h))) ∧
 (∀(cs:List AV),bor h0 h (.ai cs)=AV.undef) ∧
 (∀(b:Bool) (x:AV),bor h0 h (.gd b x)=AV.undef) ∧
 (∀(f:Nat) (cs:List AV),bor h0 h (.aK f cs)=AV.undef):=
 ⟨rfl,fun _=>rfl,fun _ _=>rfl,fun _ _=>rfl,fun _ _ _=>rfl,fun _=>rfl,fun _=>rfl,rfl,fun _ _=>rfl,fun _=>rfl,fun _ _ _=>(by simp only[bor,borC,borrowC,borSl,keepO];split<;>(try split)<;>simp_all),fun _ _ _=>(by simp only[bor,borC,keepO];rfl),fun _ _=>(by simp only[bor,borC,borV,keepO];rfl),fun _=>rfl,fun _=>rfl,fun _ _=>rfl,fun _ _=>rfl⟩
theorem Yd :
 (noRefC  AV.undef=true) ∧
 (∀(b:Bool),noRefC  (.bool b)=true) ∧
 (∀(k:IntKind) (n:Int),noRefC  (.int k n)=true) ∧
 (∀(k:FloatKind) (n:Nat),noRefC  (.fl k n)=true) ∧
 (∀(k:FloatKind) (a b:Nat),noRefC  (.cx k a b)=true) ∧
 (∀(l:List UInt8),noRefC  (.str l)=true) ∧
 (∀(x:Value),noRefC  (.lit x)=true) ∧
 (noRefC  AV.aj=true) ∧
 (∀(sz0:Nat) (es0:List AV),noRefC  (.ro sz0 es0)=true) ∧
 (∀(x:AV),noRefC  (.aw x)=true) ∧
 (∀(i o n:Nat),noRefC  (.sl i o n)=false) ∧
 (∀(i j f:Nat),noRefC  (.ptr i j f)=false) ∧
 (∀(i f:Nat),noRefC  (.ab i f)=false) ∧
 (∀(cs:List AV),noRefC  (.agg cs)=false) ∧
 (∀(cs:List AV),noRefC  (.ai cs)=false) ∧
 (∀(b:Bool) (x:AV),noRefC  (.gd b x)=false) ∧
 (∀(f:Nat) (cs:List AV),noRefC  (.aK f cs)=false):=
 ⟨rfl,fun _=>rfl,fun _ _=>rfl,fun _ _=>rfl,fun _ _ _=>rfl,fun _=>rfl,fun _=>rfl,rfl,fun _ _=>rfl,fun _=>rfl,fun _ _ _=>rfl,fun _ _ _=>rfl,fun _ _=>rfl,fun _=>rfl,fun _=>rfl,fun _ _=>rfl,fun _ _=>rfl⟩
theorem J4 :
 (flC  AV.undef=true) ∧
 (∀(b:Bool),flC  (.bool b)=true) ∧
 (∀(k:IntKind) (n:Int),flC  (.int k n)=true) ∧
 (∀(k:FloatKind) (n:Nat),flC  (.fl k n)=true) ∧
 (∀(k:FloatKind) (a b:Nat),flC  (.cx k a b)=true) ∧
 (∀(l:List UInt8),flC  (.str l)=true) ∧
 (∀(x:Value),flC  (.lit x)=true) ∧
 (flC  AV.aj=true) ∧
 (∀(sz0:Nat) (es0:List AV),flC  (.ro sz0 es0)=false) ∧
 (∀(x:AV),flC  (.aw x)=false) ∧
 (∀(i o n:Nat),flC  (.sl i o n)=false) ∧
 (∀(i j f:Nat),flC  (.ptr i j f)=false) ∧
 (∀(i f:Nat),flC  (.ab i f)=false) ∧
 (∀(cs:List AV),flC  (.agg cs)=false) ∧
 (∀(cs:List AV),flC  (.ai cs)=false) ∧
 (∀(b:Bool) (x:AV),flC  (.gd b x)=false) ∧
 (∀(f:Nat) (cs:List AV),flC  (.aK f cs)=false):=
 ⟨rfl,fun _=>rfl,fun _ _=>rfl,fun _ _=>rfl,fun _ _ _=>rfl,fun _=>rfl,fun _=>rfl,rfl,fun _ _=>rfl,fun _=>rfl,fun _ _ _=>rfl,fun _ _ _=>rfl,fun _ _=>rfl,fun _=>rfl,fun _=>rfl,fun _ _=>rfl,fun _ _=>rfl⟩
theorem RO :
 (isCell  AV.undef=false) ∧
 (∀(b:Bool),isCell  (.bool b)=true) ∧
 (∀(k:IntKind) (n:Int),isCell  (.int k n)=true) ∧
 (∀(k:FloatKind) (n:Nat),isCell  (.fl k n)=true) ∧
 (∀(k:FloatKind) (a b:Nat),isCell  (.cx k a b)=true) ∧
 (∀(l:List UInt8),isCell  (.str l)=true) ∧
 (∀(x:Value),isCell  (.lit x)=x.oneCell') ∧
 (isCell  AV.aj=true) ∧
 (∀(sz0:Nat) (es0:List AV),isCell  (.ro sz0 es0)=true) ∧
 (∀(x:AV),isCell  (.aw x)=true) ∧
 (∀(i o n:Nat),isCell  (.sl i o n)=true) ∧
 (∀(i j f:Nat),isCell  (.ptr i j f)=true) ∧
 (∀(i f:Nat),isCell  (.ab i f)=true) ∧
 (∀(cs:List AV),isCell  (.agg cs)=false) ∧
 (∀(cs:List AV),isCell  (.ai cs)=false) ∧
 (∀(b:Bool) (x:AV),isCell  (.gd b x)=false) ∧
 (∀(f:Nat) (cs:List AV),isCell  (.aK f cs)=false):=
 ⟨rfl,fun _=>rfl,fun _ _=>rfl,fun _ _=>rfl,fun _ _ _=>rfl,fun _=>rfl,fun _=>rfl,rfl,fun _ _=>rfl,fun _=>rfl,fun _ _ _=>rfl,fun _ _ _=>rfl,fun _ _=>rfl,fun _=>rfl,fun _=>rfl,fun _ _=>rfl,fun _ _=>rfl⟩
theorem Yf :
 (bJ  AV.undef=true) ∧
 (∀(b:Bool),bJ  (.bool b)=true) ∧
 (∀(k:IntKind) (n:Int),bJ  (.int k n)=true) ∧
 (∀(k:FloatKind) (n:Nat),bJ  (.fl k n)=true) ∧
 (∀(k:FloatKind) (a b:Nat),bJ  (.cx k a b)=true) ∧
 (∀(l:List UInt8),bJ  (.str l)=true) ∧
 (∀(x:Value),bJ  (.lit x)=true) ∧
 (bJ  AV.aj=true) ∧
 (∀(sz0:Nat) (es0:List AV),bJ  (.ro sz0 es0)=true) ∧
 (∀(x:AV),bJ  (.aw x)=true) ∧
 (∀(i o n:Nat),bJ  (.sl i o n)=false) ∧
 (∀(i j f:Nat),bJ  (.ptr i j f)=false) ∧
 (∀(i f:Nat),bJ  (.ab i f)=false) ∧
 (∀(cs:List AV),bJ  (.agg cs)=cs.all noRefC) ∧
 (∀(cs:List AV),bJ  (.ai cs)=false) ∧
 (∀(b:Bool) (x:AV),bJ  (.gd b x)=false) ∧
 (∀(f:Nat) (cs:List AV),bJ  (.aK f cs)=false):=
 ⟨rfl,fun _=>rfl,fun _ _=>rfl,fun _ _=>rfl,fun _ _ _=>rfl,fun _=>rfl,fun _=>rfl,rfl,fun _ _=>rfl,fun _=>rfl,fun _ _ _=>rfl,fun _ _ _=>rfl,fun _ _=>rfl,fun _=>rfl,fun _=>rfl,fun _ _=>rfl,fun _ _=>rfl⟩
theorem Ye :
 (dz  AV.undef=true) ∧
 (∀(b:Bool),dz  (.bool b)=true) ∧
 (∀(k:IntKind) (n:Int),dz  (.int k n)=true) ∧
 (∀(k:FloatKind) (n:Nat),dz  (.fl k n)=true) ∧
 (∀(k:FloatKind) (a b:Nat),dz  (.cx k a b)=true) ∧
 (∀(l:List UInt8),dz  (.str l)=true) ∧
 (∀(x:Value),dz  (.lit x)=true) ∧
 (dz  AV.aj=true) ∧
 (∀(sz0:Nat) (es0:List AV),dz  (.ro sz0 es0)=true) ∧
 (∀(x:AV),dz  (.aw x)=true) ∧
 (∀(i o n:Nat),dz  (.sl i o n)=false) ∧
 (∀(i j f:Nat),dz  (.ptr i j f)=false) ∧
 (∀(i f:Nat),dz  (.ab i f)=false) ∧
 (∀(cs:List AV),dz  (.agg cs)=cs.all noRefC) ∧
 (∀(cs:List AV),dz  (.ai cs)=cs.all bJ) ∧
 (∀(b:Bool) (x:AV),dz  (.gd b x)=false) ∧
 (∀(f:Nat) (cs:List AV),dz  (.aK f cs)=false):=
 ⟨rfl,fun _=>rfl,fun _ _=>rfl,fun _ _=>rfl,fun _ _ _=>rfl,fun _=>rfl,fun _=>rfl,rfl,fun _ _=>rfl,fun _=>rfl,fun _ _ _=>rfl,fun _ _ _=>rfl,fun _ _=>rfl,fun _=>rfl,fun _=>rfl,fun _ _=>rfl,fun _ _=>rfl⟩
theorem J2 :
 (flA  AV.undef=true) ∧
 (∀(b:Bool),flA  (.bool b)=true) ∧
 (∀(k:IntKind) (n:Int),flA  (.int k n)=true) ∧
 (∀(k:FloatKind) (n:Nat),flA  (.fl k n)=true) ∧
 (∀(k:FloatKind) (a b:Nat),flA  (.cx k a b)=true) ∧
 (∀(l:List UInt8),flA  (.str l)=true) ∧
 (∀(x:Value),flA  (.lit x)=true) ∧
 (flA  AV.aj=true) ∧
 (∀(sz0:Nat) (es0:List AV),flA  (.ro sz0 es0)=false) ∧
 (∀(x:AV),flA  (.aw x)=false) ∧
 (∀(i o n:Nat),flA  (.sl i o n)=false) ∧
 (∀(i j f:Nat),flA  (.ptr i j f)=false) ∧
 (∀(i f:Nat),flA  (.ab i f)=false) ∧
 (∀(cs:List AV),flA  (.agg cs)=cs.all flC) ∧
 (∀(cs:List AV),flA  (.ai cs)=false) ∧
 (∀(b:Bool) (x:AV),flA  (.gd b x)=false) ∧
 (∀(f:Nat) (cs:List AV),flA  (.aK f cs)=false):=
 ⟨rfl,fun _=>rfl,fun _ _=>rfl,fun _ _=>rfl,fun _ _ _=>rfl,fun _=>rfl,fun _=>rfl,rfl,fun _ _=>rfl,fun _=>rfl,fun _ _ _=>rfl,fun _ _ _=>rfl,fun _ _=>rfl,fun _=>rfl,fun _=>rfl,fun _ _=>rfl,fun _ _=>rfl⟩
theorem J9 :
 (cX  AV.undef=true) ∧
 (∀(b:Bool),cX  (.bool b)=true) ∧
 (∀(k:IntKind) (n:Int),cX  (.int k n)=true) ∧
 (∀(k:FloatKind) (n:Nat),cX  (.fl k n)=true) ∧
 (∀(k:FloatKind) (a b:Nat),cX  (.cx k a b)=true) ∧
 (∀(l:List UInt8),cX  (.str l)=true) ∧
 (∀(x:Value),cX  (.lit x)=true) ∧
 (cX  AV.aj=true) ∧
 (∀(sz0:Nat) (es0:List AV),cX  (.ro sz0 es0)=false) ∧
 (∀(x:AV),cX  (.aw x)=false) ∧
 (∀(i o n:Nat),cX  (.sl i o n)=false) ∧
 (∀(i j f:Nat),cX  (.ptr i j f)=false) ∧
 (∀(i f:Nat),cX  (.ab i f)=false) ∧
 (∀(cs:List AV),cX  (.agg cs)=cs.all flC) ∧
 (∀(cs:List AV),cX  (.ai cs)=cs.all flA) ∧
 (∀(b:Bool) (x:AV),cX  (.gd b x)=false) ∧
 (∀(f:Nat) (cs:List AV),cX  (.aK f cs)=false):=
 ⟨rfl,fun _=>rfl,fun _ _=>rfl,fun _ _=>rfl,fun _ _ _=>rfl,fun _=>rfl,fun _=>rfl,rfl,fun _ _=>rfl,fun _=>rfl,fun _ _ _=>rfl,fun _ _ _=>rfl,fun _ _=>rfl,fun _=>rfl,fun _=>rfl,fun _ _=>rfl,fun _ _=>rfl⟩
theorem Kt (h:HP) :
 (cC h AV.undef=true) ∧
 (∀(b:Bool),cC h (.bool b)=true) ∧
 (∀(k:IntKind) (n:Int),cC h (.int k n)=true) ∧
 (∀(k:FloatKind) (n:Nat),cC h (.fl k n)=true) ∧
 (∀(k:FloatKind) (a b:Nat),cC h (.cx k a b)=true) ∧
 (∀(l:List UInt8),cC h (.str l)=true) ∧
 (∀(x:Value),cC h (.lit x)=true) ∧
 (cC h AV.aj=true) ∧
 (∀(sz0:Nat) (es0:List AV),cC h (.ro sz0 es0)=false) ∧
 (∀(x:AV),cC h (.aw x)=false) ∧
 (∀(i o n:Nat),cC h (.sl i o n)=(hget h i).isSome) ∧
 (∀(i j f:Nat),cC h (.ptr i j f)=(hget h i).isSome) ∧
 (∀(i f:Nat),cC h (.ab i f)=(hget h i).isSome) ∧
 (∀(cs:List AV),cC h (.agg cs)=false) ∧
 (∀(cs:List AV),cC h (.ai cs)=false) ∧
 (∀(b:Bool) (x:AV),cC h (.gd b x)=false) ∧
 (∀(f:Nat) (cs:List AV),cC h (.aK f cs)=false):=
 ⟨rfl,fun _=>rfl,fun _ _=>rfl,fun _ _=>rfl,fun _ _ _=>rfl,fun _=>rfl,fun _=>rfl,rfl,fun _ _=>rfl,fun _=>rfl,fun _ _ _=>rfl,fun _ _ _=>rfl,fun _ _=>rfl,fun _=>rfl,fun _=>rfl,fun _ _=>rfl,fun _ _=>rfl⟩
theorem Ks (h:HP) :
 (de h AV.undef=true) ∧
 (∀(b:Bool),de h (.bool b)=true) ∧
 (∀(k:IntKind) (n:Int),de h (.int k n)=true) ∧
 (∀(k:FloatKind) (n:Nat),de h (.fl k n)=true) ∧
 (∀(k:FloatKind) (a b:Nat),de h (.cx k a b)=true) ∧
 (∀(l:List UInt8),de h (.str l)=true) ∧
 (∀(x:Value),de h (.lit x)=true) ∧
 (de h AV.aj=true) ∧
 (∀(sz0:Nat) (es0:List AV),de h (.ro sz0 es0)=false) ∧
 (∀(x:AV),de h (.aw x)=false) ∧
 (∀(i o n:Nat),de h (.sl i o n)=(hget h i).isSome) ∧
 (∀(i j f:Nat),de h (.ptr i j f)=(hget h i).isSome) ∧
 (∀(i f:Nat),de h (.ab i f)=(hget h i).isSome) ∧
 (∀(cs:List AV),de h (.agg cs)=cs.all (cC h)) ∧
 (∀(cs:List AV),de h (.ai cs)=false) ∧
 (∀(b:Bool) (x:AV),de h (.gd b x)=false) ∧
 (∀(f:Nat) (cs:List AV),de h (.aK f cs)=false):=
 ⟨rfl,fun _=>rfl,fun _ _=>rfl,fun _ _=>rfl,fun _ _ _=>rfl,fun _=>rfl,fun _=>rfl,rfl,fun _ _=>rfl,fun _=>rfl,fun _ _ _=>rfl,fun _ _ _=>rfl,fun _ _=>rfl,fun _=>rfl,fun _=>rfl,fun _ _=>rfl,fun _ _=>rfl⟩
theorem J6 (h:HP) :
 (dR h AV.undef=true) ∧
 (∀(b:Bool),dR h (.bool b)=true) ∧
 (∀(k:IntKind) (n:Int),dR h (.int k n)=true) ∧
 (∀(k:FloatKind) (n:Nat),dR h (.fl k n)=true) ∧
 (∀(k:FloatKind) (a b:Nat),dR h (.cx k a b)=true) ∧
 (∀(l:List UInt8),dR h (.str l)=true) ∧
 (∀(x:Value),dR h (.lit x)=true) ∧
 (dR h AV.aj=true) ∧
 (∀(sz0:Nat) (es0:List AV),dR h (.ro sz0 es0)=false) ∧
 (∀(x:AV),dR h (.aw x)=false) ∧
 (∀(i o n:Nat),dR h (.sl i o n)=(hget h i).isSome) ∧
 (∀(i j f:Nat),dR h (.ptr i j f)=(hget h i).isSome) ∧
 (∀(i f:Nat),dR h (.ab i f)=(hget h i).isSome) ∧
 (∀(cs:List AV),dR h (.agg cs)=cs.all (cC h)) ∧
 (∀(cs:List AV),dR h (.ai cs)=cs.all (de h)) ∧
 (∀(b:Bool) (x:AV),dR h (.gd b x)=false) ∧
 (∀(f:Nat) (cs:List AV),dR h (.aK f cs)=false):=
 ⟨rfl,fun _=>rfl,fun _ _=>rfl,fun _ _=>rfl,fun _ _ _=>rfl,fun _=>rfl,fun _=>rfl,rfl,fun _ _=>rfl,fun _=>rfl,fun _ _ _=>rfl,fun _ _ _=>rfl,fun _ _=>rfl,fun _=>rfl,fun _=>rfl,fun _ _=>rfl,fun _ _=>rfl⟩
theorem PA (h:HP) :
 (cD h AV.undef=true) ∧
 (∀(b:Bool),cD h (.bool b)=true) ∧
 (∀(k:IntKind) (n:Int),cD h (.int k n)=true) ∧
 (∀(k:FloatKind) (n:Nat),cD h (.fl k n)=true) ∧
 (∀(k:FloatKind) (a b:Nat),cD h (.cx k a b)=true) ∧
 (∀(l:List UInt8),cD h (.str l)=true) ∧
 (∀(x:Value),cD h (.lit x)=true) ∧
 (cD h AV.aj=true) ∧
 (∀(sz0:Nat) (es0:List AV),cD h (.ro sz0 es0)=true) ∧
 (∀(x:AV),cD h (.aw x)=true) ∧
 (∀(i o n:Nat),cD h (.sl i o n)=(hget h i).isSome) ∧
 (∀(i j f:Nat),cD h (.ptr i j f)=(hget h i).isSome) ∧
 (∀(i f:Nat),cD h (.ab i f)=(hget h i).isSome) ∧
 (∀(cs:List AV),cD h (.agg cs)=false) ∧
 (∀(cs:List AV),cD h (.ai cs)=false) ∧
 (∀(b:Bool) (x:AV),cD h (.gd b x)=false) ∧
 (∀(f:Nat) (cs:List AV),cD h (.aK f cs)=false):=
 ⟨rfl,fun _=>rfl,fun _ _=>rfl,fun _ _=>rfl,fun _ _ _=>rfl,fun _=>rfl,fun _=>rfl,rfl,fun _ _=>rfl,fun _=>rfl,fun _ _ _=>rfl,fun _ _ _=>rfl,fun _ _=>rfl,fun _=>rfl,fun _=>rfl,fun _ _=>rfl,fun _ _=>rfl⟩
theorem Pz (h:HP) :
 (di h AV.undef=true) ∧
 (∀(b:Bool),di h (.bool b)=true) ∧
 (∀(k:IntKind) (n:Int),di h (.int k n)=true) ∧
 (∀(k:FloatKind) (n:Nat),di h (.fl k n)=true) ∧
 (∀(k:FloatKind) (a b:Nat),di h (.cx k a b)=true) ∧
 (∀(l:List UInt8),di h (.str l)=true) ∧
 (∀(x:Value),di h (.lit x)=true) ∧
 (di h AV.aj=true) ∧
 (∀(sz0:Nat) (es0:List AV),di h (.ro sz0 es0)=true) ∧
 (∀(x:AV),di h (.aw x)=true) ∧
 (∀(i o n:Nat),di h (.sl i o n)=(hget h i).isSome) ∧
 (∀(i j f:Nat),di h (.ptr i j f)=(hget h i).isSome) ∧
 (∀(i f:Nat),di h (.ab i f)=(hget h i).isSome) ∧
 (∀(cs:List AV),di h (.agg cs)=cs.all (cD h)) ∧
 (∀(cs:List AV),di h (.ai cs)=false) ∧
 (∀(b:Bool) (x:AV),di h (.gd b x)=false) ∧
 (∀(f:Nat) (cs:List AV),di h (.aK f cs)=false):=
 ⟨rfl,fun _=>rfl,fun _ _=>rfl,fun _ _=>rfl,fun _ _ _=>rfl,fun _=>rfl,fun _=>rfl,rfl,fun _ _=>rfl,fun _=>rfl,fun _ _ _=>rfl,fun _ _ _=>rfl,fun _ _=>rfl,fun _=>rfl,fun _=>rfl,fun _ _=>rfl,fun _ _=>rfl⟩
theorem PC (h:HP) :
 (du h AV.undef=true) ∧
 (∀(b:Bool),du h (.bool b)=true) ∧
 (∀(k:IntKind) (n:Int),du h (.int k n)=true) ∧
 (∀(k:FloatKind) (n:Nat),du h (.fl k n)=true) ∧
 (∀(k:FloatKind) (a b:Nat),du h (.cx k a b)=true) ∧
 (∀(l:List UInt8),du h (.str l)=true) ∧
 (∀(x:Value),du h (.lit x)=true) ∧
 (du h AV.aj=true) ∧
 (∀(sz0:Nat) (es0:List AV),du h (.ro sz0 es0)=true) ∧
 (∀(x:AV),du h (.aw x)=true) ∧
 (∀(i o n:Nat),du h (.sl i o n)=(hget h i).isSome) ∧
 (∀(i j f:Nat),du h (.ptr i j f)=(hget h i).isSome) ∧
 (∀(i f:Nat),du h (.ab i f)=(hget h i).isSome) ∧
 (∀(cs:List AV),du h (.agg cs)=cs.all (cD h)) ∧
 (∀(cs:List AV),du h (.ai cs)=cs.all (di h)) ∧
 (∀(b:Bool) (x:AV),du h (.gd b x)=false) ∧
 (∀(f:Nat) (cs:List AV),du h (.aK f cs)=false):=
 ⟨rfl,fun _=>rfl,fun _ _=>rfl,fun _ _=>rfl,fun _ _ _=>rfl,fun _=>rfl,fun _=>rfl,rfl,fun _ _=>rfl,fun _=>rfl,fun _ _ _=>rfl,fun _ _ _=>rfl,fun _ _=>rfl,fun _=>rfl,fun _=>rfl,fun _ _=>rfl,fun _ _=>rfl⟩
theorem ard :
 (stripV  AV.undef=AV.undef) ∧
 (∀(b:Bool),stripV  (.bool b)=(.bool b)) ∧
 (∀(k:IntKind) (n:Int),stripV  (.int k n)=(.int k n)) ∧
 (∀(k:FloatKind) (n:Nat),stripV  (.fl k n)=(.fl k n)) ∧
 (∀(k:FloatKind) (a b:Nat),stripV  (.cx k a b)=(.cx k a b)) ∧
 (∀(l:List UInt8),stripV  (.str l)=(.str l)) ∧
 (∀(x:Value),stripV  (.lit x)=(.lit x)) ∧
 (stripV  AV.aj=AV.aj) ∧
 (∀(sz0:Nat) (es0:List AV),stripV  (.ro sz0 es0)=(.ro sz0 es0)) ∧
 (∀(x:AV),stripV  (.aw x)=(.aw x)) ∧
 (∀(i o n:Nat),stripV  (.sl i o n)=(.sl i o n)) ∧
 (∀(i j f:Nat),stripV  (.ptr i j f)=(.ptr i j f)) ∧
 (∀(i f:Nat),stripV  (.ab i f)=(.ab i f)) ∧
 (∀(cs:List AV),stripV  (.agg cs)=(.agg cs)) ∧
 (∀(cs:List AV),stripV  (.ai cs)=(.ai cs)) ∧
 (∀(b:Bool) (x:AV),stripV  (.gd b x)=x) ∧
 (∀(f:Nat) (cs:List AV),stripV  (.aK f cs)=.aK f cs):=
 ⟨rfl,fun _=>rfl,fun _ _=>rfl,fun _ _=>rfl,fun _ _ _=>rfl,fun _=>rfl,fun _=>rfl,rfl,fun _ _=>rfl,fun _=>rfl,fun _ _ _=>rfl,fun _ _ _=>rfl,fun _ _=>rfl,fun _=>rfl,fun _=>rfl,fun _ _=>rfl,fun _ _=>rfl⟩
theorem arc (γ:Bool) :
 (az γ AV.undef=True) ∧
 (∀(b:Bool),az γ (.bool b)=True) ∧
 (∀(k:IntKind) (n:Int),az γ (.int k n)=True) ∧
 (∀(k:FloatKind) (n:Nat),az γ (.fl k n)=True) ∧
 (∀(k:FloatKind) (a b:Nat),az γ (.cx k a b)=True) ∧
 (∀(l:List UInt8),az γ (.str l)=True) ∧
 (∀(x:Value),az γ (.lit x)=True) ∧
 (az γ AV.aj=True) ∧
 (∀(sz0:Nat) (es0:List AV),az γ (.ro sz0 es0)=True) ∧
 (∀(x:AV),az γ (.aw x)=True) ∧
 (∀(i o n:Nat),az γ (.sl i o n)=True) ∧
 (∀(i j f:Nat),az γ (.ptr i j f)=True) ∧
 (∀(i f:Nat),az γ (.ab i f)=True) ∧
 (∀(cs:List AV),az γ (.agg cs)=True) ∧
 (∀(cs:List AV),az γ (.ai cs)=True) ∧
 (∀(b:Bool) (x:AV),az γ (.gd b x)=(γ=true→b=true)) ∧
 (∀(f:Nat) (cs:List AV),az γ (.aK f cs)=True):=
 ⟨rfl,fun _=>rfl,fun _ _=>rfl,fun _ _=>rfl,fun _ _ _=>rfl,fun _=>rfl,fun _=>rfl,rfl,fun _ _=>rfl,fun _=>rfl,fun _ _ _=>rfl,fun _ _ _=>rfl,fun _ _=>rfl,fun _=>rfl,fun _=>rfl,fun _ _=>rfl,fun _ _=>rfl⟩
theorem Jh (st:St):(∀k,ev st (.t k)=(sget st.s k).getD .undef)∧(∀v,ev st (.c v)=v):=⟨fun _=>rfl,fun _=>rfl⟩
theorem ZP (st:St) (v:AV):(∀d,put st (some d) v=⟨(d,v)::st.s,st.h⟩)∧put st none v=st:=⟨fun _=>rfl,rfl⟩
theorem Lr (w:Bool):(∀β,grd (some (.bool β)) w=some (β==w))∧(∀b β,grd (some (.gd b (.bool β))) w=some (b&&(β==w)))∧grd (some (.gd false .undef)) w=some false:=⟨fun _=>rfl,fun b _=>by cases b<;>rfl,rfl⟩
theorem Ya (st:St) (d:Nat) (W:aJ):bT st d W=⟨killS d st.s,bP (eR d st.h) d W⟩:=(rfl)
theorem Ud (id:Nat):(∀sz es,jo id (.arr sz es)=.arr sz es)∧(∀cs,jo id (.var cs)=.var (cs.map (killC id)))∧(∀kd l,jo id (.mp kd l)=.mp kd l):=⟨fun _ _=>rfl,fun _=>rfl,fun _ _=>rfl⟩
theorem Lb (id sz:Nat) (es:List AV):(∀sz' es',jW id sz es (.arr sz' es')=.arr sz' es')∧(∀cs,jW id sz es (.var cs)=.var (cs.map (ck id sz es)))∧(∀kd l,jW id sz es (.mp kd l)=.mp kd l):=⟨fun _ _=>rfl,fun _=>rfl,fun _ _=>rfl⟩
theorem alb (id id':Nat):(∀sz es,jv id id' (.arr sz es)=.arr sz es)∧(∀cs,jv id id' (.var cs)=.var (cs.map fun c=>b6 id id' (killC id' c)))∧(∀kd l,jv id id' (.mp kd l)=.mp kd l):=⟨fun _ _=>rfl,fun _=>rfl,fun _ _=>rfl⟩
theorem TP (ids keep:List Nat):(∀sz es,iU ids keep (.arr sz es)=.arr sz es)∧(∀cs,iU ids keep (.var cs)=.var (cs.map (cp ids keep)))∧(∀kd l,iU ids keep (.mp kd l)=.mp kd l):=⟨fun _ _=>rfl,fun _=>rfl,fun _ _=>rfl⟩
theorem PD (h:HP):(∀sz es,kX h (.arr sz es)=true)∧(∀cs,kX h (.var cs)=cs.all (cD h))∧(∀kd l,kX h (.mp kd l)=true):=⟨fun _ _=>rfl,fun _=>rfl,fun _ _=>rfl⟩
theorem Ka (h:HP):(∀sz es,jn h (.arr sz es)=es.all flA)∧(∀cs,jn h (.var cs)=cs.all (cC h))∧(∀kd (l:List (MK×AV)),jn h (.mp kd l)=l.all fun p=>flA p.2):=⟨fun _ _=>rfl,fun _=>rfl,fun _ _=>rfl⟩
theorem PB (h:HP):iv h []=true∧(∀k W r,iv h ((k,W)::r)=(kX h W&&iv h r)):=⟨rfl,fun _ _ _=>rfl⟩
theorem J5 (h:HP):flH h []=true∧(∀k W r,flH h ((k,W)::r)=(jn h W&&flH h r)):=⟨rfl,fun _ _ _=>rfl⟩
theorem X6:dy []=[]∧(∀k W r,dy ((k,W)::r)=k::dy r):=⟨rfl,fun _ _ _=>rfl⟩
theorem YH (k:Nat):numbered k []=[]∧(∀x r,numbered k (x::r)=(k,x)::numbered (k+1) r):=⟨rfl,fun _ _=>rfl⟩
theorem ala (id id':Nat):renS id id' []=[]∧(∀k v r,renS id id' ((k,v)::r)=(k,dw id id' (kill id' v))::renS id id' r):=⟨rfl,fun _ _ _=>rfl⟩
theorem ak9 (id id':Nat):renH id id' []=[]∧(∀k v r,renH id id' ((k,v)::r)=(rn id id' k,jv id id' v)::renH id id' r):=⟨rfl,fun _ _ _=>rfl⟩
theorem aqW (id id':Nat) (st:St):pG id id' st=⟨renS id id' st.s,renH id id' st.h⟩:=(rfl)
theorem aqR (k id sz:Nat) (st:St):sO k id sz st=⟨(k,.sl id 0 0)::killS id st.s,bP (eR id st.h) id (.arr sz [])⟩:=(rfl)
theorem aqQ (p f id sz:Nat) (cs:List AV) (st:St):sP p f id sz cs st=⟨killS id st.s,bP (bP (eR id st.h) id (.arr sz [])) p (.var ((cs.map (killC id)).set f (.sl id 0 0)))⟩:=(rfl)
def j2 (b:Bool) (x y:Option (List AV)):Option (List AV):=match b with
 | true=>x
 | false=>y
def sJ (W:Option aJ) (sz o n:Nat):Option (List AV):=match W with
 | some (.arr sz' es)=>j2 (sz'==sz) (some (aI es o n)) none
 | _=>none
theorem OI {x y:Option (List AV)}:j2 true x y=x:=(rfl)
theorem OH {x y:Option (List AV)}:j2 false x y=y:=(rfl)
theorem apD {sz sz' o n:Nat} {es:List AV}:sJ (some (.arr sz' es)) sz o n=j2 (sz'==sz) (some (aI es o n)) none:=(rfl)
theorem rf {i j:Nat} {x y:Option (List AV)}:(if i=j then x else y)=j2 (i==j) x y:=by
 by_cases h:i=j
 ·subst h;rw[if_pos rfl,show(i==i)=true by simp];rfl
 ·rw[if_neg h,show(i==j)=false by simp[h]];rfl
theorem apC (sz:Nat) (st:St):slE sz st .aj=some []∧(∀sz' es,slE sz st (.ro sz' es)=j2 (sz'==sz) (some es) none)∧(∀id o n,slE sz st (.sl id o n)=sJ (hget st.h id) sz o n):=by
 refine⟨rfl,fun sz' es=>?_,fun id o n=>?_⟩
 ·rw[←rf];rfl
 ·simp only[slE,sJ]
  split
  ·rename_i e;rw[e];exact rf
  ·rename_i e
   split
   ·rename_i e2;exact(e _ _ e2).elim
   ·rfl
def kB (b:Bool) (l:List Nat):List Nat:=match b with
 | true=>l
 | false=>[]
def keep1 (x a:AV):List Nat:=match x,a with
 | .ab p f,.ab p' f'=>kB (p==p'&&f==f') [p]
 | _,_=>[]
theorem TM (l:List Nat):kB true l=l∧kB false l=[]:=⟨rfl,rfl⟩
theorem TV (x a:AV) (xs as:List AV):keepL2 (x::xs) (a::as)=keep1 x a++keepL2 xs as:=by
 cases x<;>cases a<;>simp only[keepL2,keep1,List.nil_append]
 rename_i p f p' f'
 by_cases h1:p=p'
 ·by_cases h2:f=f'
  ·subst h1;subst h2;simp[kB]
  ·rw[if_pos h1,if_neg h2,show(p==p'&&f==f')=false by simp[h2]];rfl
 ·rw[if_neg h1,show(p==p'&&f==f')=false by simp[h1]];rfl
theorem TW (as:List AV):keepL2 [] as=[]:=by simp[keepL2]
theorem TX (xs:List AV):keepL2 xs []=[]:=by cases xs<;>simp[keepL2]
theorem TT:(∀(a:AV),keep1 AV.undef a=[]) ∧
 (∀(b:Bool) (a:AV),keep1 (.bool b) a=[]) ∧
 (∀(k:IntKind) (n:Int) (a:AV),keep1 (.int k n) a=[]) ∧
 (∀(k:FloatKind) (n:Nat) (a:AV),keep1 (.fl k n) a=[]) ∧
 (∀(k:FloatKind) (m n:Nat) (a:AV),keep1 (.cx k m n) a=[]) ∧
 (∀(l:List UInt8) (a:AV),keep1 (.str l) a=[]) ∧
 (∀(v:Value) (a:AV),keep1 (.lit v) a=[]) ∧
 (∀(a:AV),keep1 AV.aj a=[]) ∧
 (∀(sz:Nat) (es:List AV) (a:AV),keep1 (.ro sz es) a=[]) ∧
 (∀(x:AV) (a:AV),keep1 (.aw x) a=[]) ∧
 (∀(i o n:Nat) (a:AV),keep1 (.sl i o n) a=[]) ∧
 (∀(i j f:Nat) (a:AV),keep1 (.ptr i j f) a=[]) ∧
 (∀(cs:List AV) (a:AV),keep1 (.agg cs) a=[]) ∧
 (∀(cs:List AV) (a:AV),keep1 (.ai cs) a=[]) ∧
 (∀(b:Bool) (x:AV) (a:AV),keep1 (.gd b x) a=[]) ∧
 (∀(p f:Nat),keep1 (.ab p f) AV.undef=[]) ∧
 (∀(p f:Nat) (b:Bool),keep1 (.ab p f) (.bool b)=[]) ∧
 (∀(p f:Nat) (k:IntKind) (n:Int),keep1 (.ab p f) (.int k n)=[]) ∧
 (∀(p f:Nat) (k:FloatKind) (n:Nat),keep1 (.ab p f) (.fl k n)=[]) ∧
 (∀(p f:Nat) (k:FloatKind) (m n:Nat),keep1 (.ab p f) (.cx k m n)=[]) ∧
 (∀(p f:Nat) (l:List UInt8),keep1 (.ab p f) (.str l)=[]) ∧
 (∀(p f:Nat) (v:Value),keep1 (.ab p f) (.lit v)=[]) ∧
 (∀(p f:Nat),keep1 (.ab p f) AV.aj=[]) ∧
 (∀(p f:Nat) (sz:Nat) (es:List AV),keep1 (.ab p f) (.ro sz es)=[]) ∧
 (∀(p f:Nat) (x:AV),keep1 (.ab p f) (.aw x)=[]) ∧
 (∀(p f:Nat) (i o n:Nat),keep1 (.ab p f) (.sl i o n)=[]) ∧
 (∀(p f:Nat) (i j f:Nat),keep1 (.ab p f) (.ptr i j f)=[]) ∧
 (∀(p f:Nat) (cs:List AV),keep1 (.ab p f) (.agg cs)=[]) ∧
 (∀(p f:Nat) (cs:List AV),keep1 (.ab p f) (.ai cs)=[]) ∧
 (∀(p f:Nat) (b:Bool) (x:AV),keep1 (.ab p f) (.gd b x)=[]) ∧
 (∀(p f p' f':Nat),keep1 (.ab p f) (.ab p' f')=kB (p==p'&&f==f') [p]):=
 ⟨fun _=>rfl,fun _ _=>rfl,fun _ _ _=>rfl,fun _ _ _=>rfl,fun _ _ _ _=>rfl,fun _ _=>rfl,fun _ _=>rfl,fun _=>rfl,fun _ _ _=>rfl,fun _ _=>rfl,fun _ _ _ _=>rfl,fun _ _ _ _=>rfl,fun _ _=>rfl,fun _ _=>rfl,fun _ _ _=>rfl,fun _ _=>rfl,fun _ _ _=>rfl,fun _ _ _ _=>rfl,fun _ _ _ _=>rfl,fun _ _ _ _ _=>rfl,fun _ _ _=>rfl,fun _ _ _=>rfl,fun _ _=>rfl,fun _ _ _ _=>rfl,fun _ _ _=>rfl,fun _ _ _ _ _=>rfl,fun _ _ _ _ _=>rfl,fun _ _ _=>rfl,fun _ _ _=>rfl,fun _ _ _ _=>rfl,fun _ _ _ _=>rfl⟩
def lH (b:Bool) (l:List (Nat×AV)):List (Nat×AV):=match b with
 | true=>l
 | false=>[]
theorem DR (l:List (Nat×AV)):lH true l=l∧lH false l=[]:=⟨rfl,rfl⟩
def back1 (s:List (Nat×AV)) (h:HP) (k:Nat) (a:AV):List (Nat×AV):=match a with
 | .sl i o n=>lH ((hget h i).isSome&&(sget s k).isSome) [(k,.sl i o n)]
 | _=>[]
theorem D1 (s:List (Nat×AV)) (h:HP) (k:Nat) (xs:List AE) (a:AV) (as:List AV):backS s h (.t k::xs) (a::as)=back1 s h k a++backS s h xs as:=by
 cases a<;>simp only[backS,back1,List.nil_append]
 rename_i i o n
 cases h1:(hget h i).isSome<;>cases h2:(sget s k).isSome<;>simp[lH]
theorem DY (s:List (Nat×AV)) (h:HP) (v:AV) (xs:List AE) (a:AV) (as:List AV):backS s h (.c v::xs) (a::as)=backS s h xs as:=by
 cases a<;>simp only[backS]
theorem D0 (s:List (Nat×AV)) (h:HP) (as:List AV):backS s h [] as=[]:=by simp[backS]
theorem DX:(∀(s:List (Nat×AV)) (h:HP) (k0:Nat),back1 s h k0 AV.undef=[]) ∧
 (∀(s:List (Nat×AV)) (h:HP) (k0:Nat) (b:Bool),back1 s h k0 (.bool b)=[]) ∧
 (∀(s:List (Nat×AV)) (h:HP) (k0:Nat) (k:IntKind) (n:Int),back1 s h k0 (.int k n)=[]) ∧
 (∀(s:List (Nat×AV)) (h:HP) (k0:Nat) (k:FloatKind) (n:Nat),back1 s h k0 (.fl k n)=[]) ∧
 (∀(s:List (Nat×AV)) (h:HP) (k0:Nat) (k:FloatKind) (m n:Nat),back1 s h k0 (.cx k m n)=[]) ∧
 (∀(s:List (Nat×AV)) (h:HP) (k0:Nat) (l:List UInt8),back1 s h k0 (.str l)=[]) ∧
 (∀(s:List (Nat×AV)) (h:HP) (k0:Nat) (v:Value),back1 s h k0 (.lit v)=[]) ∧
 (∀(s:List (Nat×AV)) (h:HP) (k0:Nat),back1 s h k0 AV.aj=[]) ∧
 (∀(s:List (Nat×AV)) (h:HP) (k0:Nat) (sz:Nat) (es:List AV),back1 s h k0 (.ro sz es)=[]) ∧
 (∀(s:List (Nat×AV)) (h:HP) (k0:Nat) (x:AV),back1 s h k0 (.aw x)=[]) ∧
 (∀(s:List (Nat×AV)) (h:HP) (k0:Nat) (i j f:Nat),back1 s h k0 (.ptr i j f)=[]) ∧
 (∀(s:List (Nat×AV)) (h:HP) (k0:Nat) (cs:List AV),back1 s h k0 (.agg cs)=[]) ∧
 (∀(s:List (Nat×AV)) (h:HP) (k0:Nat) (cs:List AV),back1 s h k0 (.ai cs)=[]) ∧
 (∀(s:List (Nat×AV)) (h:HP) (k0:Nat) (b:Bool) (x:AV),back1 s h k0 (.gd b x)=[]) ∧
 (∀(s:List (Nat×AV)) (h:HP) (k0:Nat) (i f:Nat),back1 s h k0 (.ab i f)=[]) ∧
 (∀(s:List (Nat×AV)) (h:HP) (k0:Nat) (i o n:Nat),back1 s h k0 (.sl i o n)=lH ((hget h i).isSome&&(sget s k0).isSome) [(k0,.sl i o n)]):=
 ⟨fun _ _ _=>rfl,fun _ _ _ _=>rfl,fun _ _ _ _ _=>rfl,fun _ _ _ _ _=>rfl,fun _ _ _ _ _ _=>rfl,fun _ _ _ _=>rfl,fun _ _ _ _=>rfl,fun _ _ _=>rfl,fun _ _ _ _ _=>rfl,fun _ _ _ _=>rfl,fun _ _ _ _ _ _=>rfl,fun _ _ _ _=>rfl,fun _ _ _ _=>rfl,fun _ _ _ _ _=>rfl,fun _ _ _ _ _=>rfl,fun _ _ _ _ _ _=>rfl⟩
theorem Cy (st:St) (h:HP) (args:List AE) (h':HP) (as:List AV):gp st h args h' as=⟨backS st.s h' args as++killSI (dy h++dy h') (keepL2 (args.map (ev st)) as) st.s,h'++dropH (dy h++dy h') (keepL2 (args.map (ev st)) as) st.h⟩:=(rfl)
theorem aqM (sz:Nat) (st:St):(∀l,srcE sz st (.str l)=j2 (sz==1) (some (l.map ub)) none)∧srcE sz st .aj=slE sz st .aj∧(∀sz' es,srcE sz st (.ro sz' es)=slE sz st (.ro sz' es))∧(∀id o n,srcE sz st (.sl id o n)=slE sz st (.sl id o n)):=
 ⟨fun l=>by rw[←rf];rfl,rfl,fun _ _=>rfl,fun _ _ _=>rfl⟩
theorem F5 (x:AV):aY x=(cellsOf x).all isCell:=(rfl)
theorem aoD {α:Type} (l:List α) (k:Nat) (s:List α):c7 l k s=l.take k++s++l.drop (k+s.length):=(rfl)
theorem Zk:(∀x,packC [x]=x)∧packC []=.agg []∧(∀x y r,packC (x::y::r)=.agg (x::y::r)):=⟨fun _=>rfl,rfl,fun _ _ _=>rfl⟩
theorem Zz (γ β:Bool) (x y:AV) :
 (∀p q,pick2 γ β x y (.bool p) (.bool q)=.ok ((γ=true→β=true→az true x)∧(γ=true→β=false→az true y)) (.bool (if β then p else q))) ∧
 (∀p,pick2 γ β x y (.bool p) .undef=.ok (γ=true→β=true∧az true x) (.bool p)) ∧
 (∀q,pick2 γ β x y .undef (.bool q)=.ok (γ=true→β=false∧az true y) (.bool q)):=⟨fun _ _=>rfl,fun _=>rfl,fun _=>rfl⟩
theorem ZA (γ β:Bool) (x y:AV):pickR γ (.bool β) x y=pick2 γ β x y (stripV x) (stripV y):=(rfl)
theorem T3 (st:St):(∀id o n,keepR st (.sl id o n)=keepSl st id o n (hget st.h id)) ∧
 (∀b,keepR st (.bool b)=.ok (bJ (.bool b)=true∧aY (.bool b)=true) (.bool b) st) ∧
 (∀k n,keepR st (.int k n)=.ok (bJ (.int k n)=true∧aY (.int k n)=true) (.int k n) st) ∧
 (∀k n,keepR st (.fl k n)=.ok (bJ (.fl k n)=true∧aY (.fl k n)=true) (.fl k n) st) ∧
 (∀k a b,keepR st (.cx k a b)=.ok (bJ (.cx k a b)=true∧aY (.cx k a b)=true) (.cx k a b) st) ∧
 (∀l,keepR st (.str l)=.ok (bJ (.str l)=true∧aY (.str l)=true) (.str l) st) ∧
 (∀l,keepR st (.lit l)=.ok (bJ (.lit l)=true∧aY (.lit l)=true) (.lit l) st) ∧
 (keepR st .aj=.ok (bJ .aj=true∧aY .aj=true) .aj st) ∧
 (∀sz es,keepR st (.ro sz es)=.ok (bJ (.ro sz es)=true∧aY (.ro sz es)=true) (.ro sz es) st) ∧
 (∀x,keepR st (.aw x)=.ok (bJ (.aw x)=true∧aY (.aw x)=true) (.aw x) st) ∧
 (∀cs,keepR st (.agg cs)=.ok (bJ (.agg cs)=true∧aY (.agg cs)=true) (.agg cs) st):=
 ⟨fun _ _ _=>rfl,fun _=>rfl,fun _ _=>rfl,fun _ _=>rfl,fun _ _ _=>rfl,fun _=>rfl,fun _=>rfl,rfl,fun _ _=>rfl,fun _=>rfl,fun _=>rfl⟩
theorem CJ :
 (∀(c:Prop) d v,andR c (.ok d v)=.ok (c∧d) v) ∧
 (∀(c:Prop),andR c (.fail)=.fail):=
 ⟨(fun _ _ _=>rfl),(fun _=>rfl)⟩
theorem PZ :
 (∀(γ:Bool) (k:IntKind) (k':IntKind) (x:Int) (y:Int),intR γ (.shl) k k' x y=.ok (γ=true→0≤y) (.int k (k.wrap (x*2^(min y.toNat k.bits))))) ∧
 (∀(γ:Bool) (k:IntKind) (k':IntKind) (x:Int) (y:Int),intR γ (.shr) k k' x y=.ok (γ=true→0≤y) (.int k (x.fdiv (2^(min y.toNat k.bits))))) ∧
 (∀(γ:Bool) (k:IntKind) (k':IntKind) (x:Int) (y:Int),intR γ (.add) k k' x y=.ok (k=k') (.int k (k.wrap (x+y)))) ∧
 (∀(γ:Bool) (k:IntKind) (k':IntKind) (x:Int) (y:Int),intR γ (.sub) k k' x y=.ok (k=k') (.int k (k.wrap (x-y)))) ∧
 (∀(γ:Bool) (k:IntKind) (k':IntKind) (x:Int) (y:Int),intR γ (.mul) k k' x y=.ok (k=k') (.int k (k.wrap (x*y)))) ∧
 (∀(γ:Bool) (k:IntKind) (k':IntKind) (x:Int) (y:Int),intR γ (.quo) k k' x y=.ok (k=k'∧(γ=true→y≠0)) (.int k (k.wrap (x.tdiv y)))) ∧
 (∀(γ:Bool) (k:IntKind) (k':IntKind) (x:Int) (y:Int),intR γ (.rem) k k' x y=.ok (k=k'∧(γ=true→y≠0)) (.int k (x.tmod y))) ∧
 (∀(γ:Bool) (k:IntKind) (k':IntKind) (x:Int) (y:Int),intR γ (.and) k k' x y=.ok (k=k') (.int k (bits .and k x y))) ∧
 (∀(γ:Bool) (k:IntKind) (k':IntKind) (x:Int) (y:Int),intR γ (.or) k k' x y=.ok (k=k') (.int k (bits .or k x y))) ∧
 (∀(γ:Bool) (k:IntKind) (k':IntKind) (x:Int) (y:Int),intR γ (.xor) k k' x y=.ok (k=k') (.int k (bits .xor k x y))) ∧
 (∀(γ:Bool) (k:IntKind) (k':IntKind) (x:Int) (y:Int),intR γ (.andNot) k k' x y=.ok (k=k') (.int k (bits .andNot k x y))) ∧
 (∀(γ:Bool) (k:IntKind) (k':IntKind) (x:Int) (y:Int),intR γ (.eql) k k' x y=.ok (k=k') (.bool (decide (x=y)))) ∧
 (∀(γ:Bool) (k:IntKind) (k':IntKind) (x:Int) (y:Int),intR γ (.neq) k k' x y=.ok (k=k') (.bool (!decide (x=y)))) ∧
 (∀(γ:Bool) (k:IntKind) (k':IntKind) (x:Int) (y:Int),intR γ (.lss) k k' x y=.ok (k=k') (.bool (decide (x<y)))) ∧
 (∀(γ:Bool) (k:IntKind) (k':IntKind) (x:Int) (y:Int),intR γ (.leq) k k' x y=.ok (k=k') (.bool (decide (x≤y)))) ∧
 (∀(γ:Bool) (k:IntKind) (k':IntKind) (x:Int) (y:Int),intR γ (.gtr) k k' x y=.ok (k=k') (.bool (decide (y<x)))) ∧
 (∀(γ:Bool) (k:IntKind) (k':IntKind) (x:Int) (y:Int),intR γ (.geq) k k' x y=.ok (k=k') (.bool (decide (y≤x)))):=
 ⟨(fun _ _ _ _ _=>rfl),(fun _ _ _ _ _=>rfl),(fun _ _ _ _ _=>rfl),(fun _ _ _ _ _=>rfl),(fun _ _ _ _ _=>rfl),(fun _ _ _ _ _=>rfl),(fun _ _ _ _ _=>rfl),(fun _ _ _ _ _=>rfl),(fun _ _ _ _ _=>rfl),(fun _ _ _ _ _=>rfl),(fun _ _ _ _ _=>rfl),(fun _ _ _ _ _=>rfl),(fun _ _ _ _ _=>rfl),(fun _ _ _ _ _=>rfl),(fun _ _ _ _ _=>rfl),(fun _ _ _ _ _=>rfl),(fun _ _ _ _ _=>rfl)⟩
theorem aq9 :
 (∀(γ:Bool) (x:List UInt8) (y:List UInt8),iE γ (.add) x y=.ok (γ=true→x.length+y.length≤9223372036854775807) (.str (x++y))) ∧
 (∀(γ:Bool) (x:List UInt8) (y:List UInt8),iE γ (.eql) x y=.ok True (.bool (x==y))) ∧
 (∀(γ:Bool) (x:List UInt8) (y:List UInt8),iE γ (.neq) x y=.ok True (.bool (!(x==y)))) ∧
 (∀(γ:Bool) (x:List UInt8) (y:List UInt8),iE γ (.lss) x y=.ok True (.bool (Op.bytesLess x y))) ∧
 (∀(γ:Bool) (x:List UInt8) (y:List UInt8),iE γ (.leq) x y=.ok True (.bool (Op.bytesLess x y||x==y))) ∧
 (∀(γ:Bool) (x:List UInt8) (y:List UInt8),iE γ (.gtr) x y=.ok True (.bool (!(Op.bytesLess x y||x==y)))) ∧
 (∀(γ:Bool) (x:List UInt8) (y:List UInt8),iE γ (.geq) x y=.ok True (.bool (!Op.bytesLess x y))):=
 ⟨(fun _ _ _=>rfl),(fun _ _ _=>rfl),(fun _ _ _=>rfl),(fun _ _ _=>rfl),(fun _ _ _=>rfl),(fun _ _ _=>rfl),(fun _ _ _=>rfl)⟩
theorem J8 :
 (∀(k:FloatKind) (k':FloatKind) (x:Nat) (y:Nat),gw (.add) k k' x y=.ok (k=k'∧(k.format.add x y).isSome=true) (.fl k ((k.format.add x y).getD 0))) ∧
 (∀(k:FloatKind) (k':FloatKind) (x:Nat) (y:Nat),gw (.sub) k k' x y=.ok (k=k'∧(k.format.sub x y).isSome=true) (.fl k ((k.format.sub x y).getD 0))) ∧
 (∀(k:FloatKind) (k':FloatKind) (x:Nat) (y:Nat),gw (.mul) k k' x y=.ok (k=k'∧(k.format.mul x y).isSome=true) (.fl k ((k.format.mul x y).getD 0))) ∧
 (∀(k:FloatKind) (k':FloatKind) (x:Nat) (y:Nat),gw (.eql) k k' x y=.ok (k=k') (.bool (k.format.order x y==some .eq))) ∧
 (∀(k:FloatKind) (k':FloatKind) (x:Nat) (y:Nat),gw (.neq) k k' x y=.ok (k=k') (.bool (k.format.order x y != some .eq))) ∧
 (∀(k:FloatKind) (k':FloatKind) (x:Nat) (y:Nat),gw (.lss) k k' x y=.ok (k=k') (.bool (k.format.order x y==some .lt))) ∧
 (∀(k:FloatKind) (k':FloatKind) (x:Nat) (y:Nat),gw (.gtr) k k' x y=.ok (k=k') (.bool (k.format.order x y==some .gt))) ∧
 (∀(k:FloatKind) (k':FloatKind) (x:Nat) (y:Nat),gw (.leq) k k' x y=.ok (k=k') (.bool (k.format.order x y==some .lt||k.format.order x y==some .eq))) ∧
 (∀(k:FloatKind) (k':FloatKind) (x:Nat) (y:Nat),gw (.geq) k k' x y=.ok (k=k') (.bool (k.format.order x y==some .gt||k.format.order x y==some .eq))):=
 ⟨(fun _ _ _ _=>rfl),(fun _ _ _ _=>rfl),(fun _ _ _ _=>rfl),(fun _ _ _ _=>rfl),(fun _ _ _ _=>rfl),(fun _ _ _ _=>rfl),(fun _ _ _ _=>rfl),(fun _ _ _ _=>rfl),(fun _ _ _ _=>rfl)⟩
theorem Hq :
 (∀(k:FloatKind) (k':FloatKind) (a:Nat) (b:Nat) (c:Nat) (d:Nat),jT (.add) k k' a b c d=.ok (k=k'∧(k.format.add a c).isSome=true∧(k.format.add b d).isSome=true) (.cx k ((k.format.add a c).getD 0) ((k.format.add b d).getD 0))) ∧
 (∀(k:FloatKind) (k':FloatKind) (a:Nat) (b:Nat) (c:Nat) (d:Nat),jT (.sub) k k' a b c d=.ok (k=k'∧(k.format.sub a c).isSome=true∧(k.format.sub b d).isSome=true) (.cx k ((k.format.sub a c).getD 0) ((k.format.sub b d).getD 0))) ∧
 (∀(k:FloatKind) (k':FloatKind) (a:Nat) (b:Nat) (c:Nat) (d:Nat),jT (.eql) k k' a b c d=.ok (k=k') (.bool (k.format.order a c==some .eq&&k.format.order b d==some .eq))) ∧
 (∀(k:FloatKind) (k':FloatKind) (a:Nat) (b:Nat) (c:Nat) (d:Nat),jT (.neq) k k' a b c d=.ok (k=k') (.bool (!(k.format.order a c==some .eq&&k.format.order b d==some .eq)))):=
 ⟨(fun _ _ _ _ _ _=>rfl),(fun _ _ _ _ _ _=>rfl),(fun _ _ _ _ _ _=>rfl),(fun _ _ _ _ _ _=>rfl)⟩
theorem Ed :
 (∀(γ:Bool) (op:BinOp) k a k' b,binR γ op (.int k a) (.int k' b)=intR γ op k k' a b) ∧
 (∀(γ:Bool) (op:BinOp) a b,binR γ op (.str a) (.str b)=iE γ op a b) ∧
 (∀(γ:Bool) (op:BinOp) k a k' b,binR γ op (.fl k a) (.fl k' b)=gw op k k' a b) ∧
 (∀(γ:Bool) (op:BinOp) k a b k' c d,binR γ op (.cx k a b) (.cx k' c d)=jT op k k' a b c d):=
 ⟨(fun _ _ _ _ _ _=>rfl),(fun _ _ _ _=>rfl),(fun _ _ _ _ _ _=>rfl),(fun _ _ _ _ _ _ _ _=>rfl)⟩
theorem D6 :
 (∀(neg:Bool) a b,beqR neg (.bool a) (.bool b)=.ok True (.bool (if neg then !(a==b)else a==b))):=
 (fun _ _ _=>rfl)
theorem Jd :
 (∀a b,eqOK 0 (.bool a) (.bool b)=true)∧(∀k a k' b,eqOK 1 (.int k a) (.int k' b)=(k==k'))∧(∀a b,eqOK 2 (.str a) (.str b)=true):=⟨(fun _ _=>rfl),(fun _ _ _ _=>rfl),(fun _ _=>rfl)⟩
theorem Ja :
 (∀a b,eqC (.bool a) (.bool b)=(a==b))∧(∀k a k' b,eqC (.int k a) (.int k' b)=decide (a=b))∧(∀a b,eqC (.str a) (.str b)=(a==b)):=⟨(fun _ _=>rfl),(fun _ _ _ _=>rfl),(fun _ _=>rfl)⟩
theorem Pj (k:IntKind):(k==k)=true:=by cases k<;>decide
theorem Jf:eqOKs [] [] []=true:=(rfl)
theorem Je (k:Nat) (ks:List Nat) (c:AV) (cs:List AV) (d:AV) (ds:List AV):eqOKs (k::ks) (c::cs) (d::ds)=(eqOK k c d&&eqOKs ks cs ds):=(rfl)
theorem Jc:eqCs [] []=true:=(rfl)
theorem Jb (c:AV) (cs:List AV) (d:AV) (ds:List AV):eqCs (c::cs) (d::ds)=(eqC c d&&eqCs cs ds):=(rfl)
theorem Cu (γ neg:Bool) (ks:List Nat) (cs ds:List AV):aeqR γ neg ks (.agg cs) (.agg ds)=.ok (γ=true→eqOKs ks cs ds=true) (.bool (if neg then !(eqCs cs ds)else eqCs cs ds)):=(rfl)
theorem Dg (γ:Bool) (st:St) (neg:Bool) (ks:List Nat) (x y:AE):avalR γ st (.jK neg ks x y)=andR (az γ (ev st x)) (andR (az γ (ev st y)) (aeqR γ neg ks (stripV (ev st x)) (stripV (ev st y)))):=(rfl)
theorem asd :
 (∀b,unR (.not) (.bool b)=.ok True (.bool (!b))) ∧
 (∀k n,unR (.neg) (.int k n)=.ok True (.int k (k.wrap (0-n)))) ∧
 (∀k n,unR (.xor) (.int k n)=.ok True (.int k (bits .xor k (if k.signed then -1 else k.max) n))):=
 ⟨(fun _=>rfl),(fun _ _=>rfl),(fun _ _=>rfl)⟩
theorem Hl :
 (∀(k:IntKind) u1 n,cviR k (.int u1 n)=.ok True (.int k (k.wrap n))):=
 (fun _ _ _=>rfl)
theorem GD :
 (∀(k:FloatKind) u1 n,nH k (.int u1 n)=.ok True (.fl k (k.nearest n))):=
 (fun _ _ _=>rfl)
theorem Gs :
 (∀(γ:Bool) (k:IntKind) s b,cfiR γ k (.fl s b)=.ok (γ=true→(floatToIntVal s b k).isSome=true) (.int k ((floatToIntVal s b k).getD 0))):=
 (fun _ _ _ _=>rfl)
theorem Hg :
 (∀s,cstR (.str s)=.ok True (.str s)):=
 (fun _=>rfl)
theorem FL :
 (∀(γ:Bool) es,btsR γ (some es)=.ok (γ=true→gN es=true) (.str (bytesOf es))) ∧
 (∀(γ:Bool),btsR γ (none)=.fail):=
 ⟨(fun _ _=>rfl),(fun _=>rfl)⟩
theorem Hf :
 (∀k a k' b,cplxR (.fl k a) (.fl k' b)=.ok (k=k') (.cx k a b)):=
 (fun _ _ _ _=>rfl)
theorem ak1 :
 (∀k a u1,reR (.cx k a u1)=.ok True (.fl k a)):=
 (fun _ _ _=>rfl)
theorem Py :
 (∀k u1 b,oI (.cx k u1 b)=.ok True (.fl k b)):=
 (fun _ _ _=>rfl)
theorem VO :
 (∀l,lenR (true) (.str l)=.ok True (.int .i64 l.length)) ∧
 (∀u1 es,lenR (false) (.ro u1 es)=.ok True (.int .i64 es.length)) ∧
 (∀u1 u2 n,lenR (false) (.sl u1 u2 n)=.ok True (.int .i64 n)) ∧
 (lenR (false) (.aj)=.ok True (.int .i64 0)):=
 ⟨(fun _=>rfl),(fun _ _=>rfl),(fun _ _ _=>rfl),rfl⟩
theorem XU :
 (∀(mx:Bool) k a u1 b,mmR mx (.int k a) (.int u1 b)=.ok True (.int k (if mx then(if b > a then b else a)else(if b<a then b else a)))):=
 (fun _ _ _ _ _=>rfl)
theorem Ji :
 (∀(i:Nat) vs,extR (.ai vs) i=.ok (i<vs.length) (vs.getD i .undef)):=
 (fun _ _=>rfl)
theorem Yc :
 (∀e,nilcR (.aw e)=.ok True (.aw e)) ∧
 (∀id f,nilcR (.ab id f)=.ok True (.ab id f)):=
 ⟨(fun _=>rfl),(fun _ _=>rfl)⟩
theorem OG :
 (∀(γ:Bool) (sz:Nat) (id:Nat) (off:Nat) (n:Nat) (i:Int) sz' u1,idxW γ sz (some (.arr sz' u1)) id off n i=.ok ((γ=true→0≤i∧i<n)∧0<sz∧sz'=sz) (.ptr id (off+i.toNat) 0)):=
 (fun _ _ _ _ _ _ _ _=>rfl)
theorem OD :
 (∀(γ:Bool) (st:St) (sz:Nat) sz' es u1 i,idxR γ st sz (.ro sz' es) (.int u1 i)=.ok ((γ=true→0≤i∧i<es.length)∧0<sz∧sz'=sz) (.aw (nth es i.toNat))) ∧
 (∀(γ:Bool) (st:St) (sz:Nat) id off n u1 i,idxR γ st sz (.sl id off n) (.int u1 i)=idxW γ sz (hget st.h id) id off n i):=
 ⟨(fun _ _ _ _ _ _ _=>rfl),(fun _ _ _ _ _ _ _ _=>rfl)⟩
theorem apm :
 (∀(γ:Bool) l u1 i,sidxR γ (.str l) (.int u1 i)=.ok (γ=true→0≤i∧i<l.length) (.int .u8 (l.getD i.toNat 0).toNat)):=
 (fun _ _ _ _=>rfl)
theorem VD :
 (∀(γ:Bool) (n:Nat) (cs:List AV),ldcR γ (true) n cs=.ok (γ=true→n≤cs.length) (.agg (cs.take n))) ∧
 (∀(γ:Bool) (n:Nat) (cs:List AV),ldcR γ (false) n cs=.ok (γ=true→0<cs.length) (cs.getD 0 .undef)):=
 ⟨(fun _ _ _=>rfl),(fun _ _ _=>rfl)⟩
theorem Vx :
 (∀(γ:Bool) (ag:Bool) (n:Nat) (i:Nat) (f:Nat) u1 es,oO γ ag n i f (some (.arr u1 es))=ldcR γ ag n ((cellsOf (nth es i)).drop f)):=
 (fun _ _ _ _ _ _ _=>rfl)
theorem VC :
 (∀(γ:Bool) (ag:Bool) (n:Nat) (f:Nat) cs,ldV γ ag n f (some (.var cs))=ldcR γ ag n (cs.drop f)):=
 (fun _ _ _ _ _=>rfl)
theorem VB :
 (∀(γ:Bool) (st:St) (ag:Bool) (n:Nat) e,ldR γ st ag n (.aw e)=ldcR γ ag n (cellsOf e)) ∧
 (∀(γ:Bool) (st:St) (ag:Bool) (n:Nat) id i f,ldR γ st ag n (.ptr id i f)=oO γ ag n i f (hget st.h id)) ∧
 (∀(γ:Bool) (st:St) (ag:Bool) (n:Nat) id f,ldR γ st ag n (.ab id f)=ldV γ ag n f (hget st.h id)):=
 ⟨(fun _ _ _ _ _=>rfl),(fun _ _ _ _ _ _ _=>rfl),(fun _ _ _ _ _ _=>rfl)⟩
theorem DN :
 (∀(γ:Bool) (n:Nat) (c:Prop) u1 l,nq γ n c (.int u1 l)=.ok (c∧(γ=true→0≤l∧l≤n)) l.toNat n):=
 (fun _ _ _ _ _=>rfl)
theorem DP :
 (∀(γ:Bool) (n:Nat) (c:Prop) u1 h,nr γ n c (.int u1 h)=.ok (c∧(γ=true→0≤h∧h≤n)) 0 h.toNat):=
 (fun _ _ _ _ _=>rfl)
theorem DQ :
 (∀(γ:Bool) (n:Nat) (c:Prop) (c':Prop) u1 l u2 h,ns γ n c c' (.int u1 l) (.int u2 h)=.ok (c∧c'∧(γ=true→0≤l∧l≤h∧h≤n)) l.toNat h.toNat):=
 (fun _ _ _ _ _ _ _ _=>rfl)
theorem E7 :
 (∀(γ:Bool) (st:St) (n:Nat),bndR γ st n (none) (none)=.ok True 0 n) ∧
 (∀(γ:Bool) (st:St) (n:Nat) l,bndR γ st n (some l) (none)=nq γ n (az γ (ev st l)) (stripV (ev st l))) ∧
 (∀(γ:Bool) (st:St) (n:Nat) h,bndR γ st n (none) (some h)=nr γ n (az γ (ev st h)) (stripV (ev st h))) ∧
 (∀(γ:Bool) (st:St) (n:Nat) l h,bndR γ st n (some l) (some h)=ns γ n (az γ (ev st l)) (az γ (ev st h)) (stripV (ev st l)) (stripV (ev st h))):=
 ⟨(fun _ _ _=>rfl),(fun _ _ _ _=>rfl),(fun _ _ _ _=>rfl),(fun _ _ _ _ _=>rfl)⟩
theorem apK :
 (∀(s:List UInt8) c l h,slcStrR s (.ok c l h)=.ok c (.str ((s.drop l).take (h-l)))) ∧
 (∀(s:List UInt8),slcStrR s (.fail)=.fail):=
 ⟨(fun _ _ _ _=>rfl),(fun _=>rfl)⟩
theorem apI :
 (∀(γ:Bool) (st:St) (lo:Option AE) (hi:Option AE) s,pD γ st lo hi (.str s)=slcStrR s (bndR γ st s.length lo hi)):=
 (fun _ _ _ _ _=>rfl)
theorem apG :
 (∀c u1 u2,mD (.ok c u1 u2)=.ok c .aj) ∧
 (mD (.fail)=.fail):=
 ⟨(fun _ _ _=>rfl),rfl⟩
theorem apH :
 (∀(sz:Nat) (sz':Nat) (es:List AV) c l h,mE sz sz' es (.ok c l h)=.ok (sz'=sz∧c) (.ro sz (aI es l (h-l)))) ∧
 (∀(sz:Nat) (sz':Nat) (es:List AV),mE sz sz' es (.fail)=.fail):=
 ⟨(fun _ _ _ _ _ _=>rfl),(fun _ _ _=>rfl)⟩
theorem apJ :
 (∀(sz:Nat) (id:Nat) (off:Nat) c l h sz' u1,slcSlR sz id off (some (.arr sz' u1)) (.ok c l h)=.ok (c∧sz'=sz) (.sl id (off+l) (h-l))):=
 (fun _ _ _ _ _ _ _ _=>rfl)
theorem apF :
 (∀(γ:Bool) (st:St) (sz:Nat) (lo:Option AE) (hi:Option AE),slcAR γ st sz lo hi (.aj)=mD (bndR γ st 0 lo hi)) ∧
 (∀(γ:Bool) (st:St) (sz:Nat) (lo:Option AE) (hi:Option AE) sz' es,slcAR γ st sz lo hi (.ro sz' es)=mE sz sz' es (bndR γ st es.length lo hi)) ∧
 (∀(γ:Bool) (st:St) (sz:Nat) (lo:Option AE) (hi:Option AE) id off n,slcAR γ st sz lo hi (.sl id off n)=slcSlR sz id off (hget st.h id) (bndR γ st n lo hi)):=
 ⟨(fun _ _ _ _ _=>rfl),(fun _ _ _ _ _ _ _=>rfl),(fun _ _ _ _ _ _ _ _=>rfl)⟩
theorem Kl :
 (∀(off:Nat) (id:Nat) (i:Nat) (f:Nat) sz u1,og off (some (.arr sz u1)) id i f=.ok (f+off<sz) (.ptr id i (f+off))):=
 (fun _ _ _ _ _ _=>rfl)
theorem Kj :
 (∀(γ:Bool) (off:Nat) (n:Nat) (cs:List AV),oe γ (true) off n cs=.ok ((γ=true→off+n≤cs.length)∧0<n) (.aw (.agg ((cs.drop off).take n)))) ∧
 (∀(γ:Bool) (off:Nat) (n:Nat) (cs:List AV),oe γ (false) off n cs=.ok ((γ=true→off+n≤cs.length)∧0<n∧n=1∧isCell (cs.getD off .undef)=true) (.aw (cs.getD off .undef))):=
 ⟨(fun _ _ _ _=>rfl),(fun _ _ _ _=>rfl)⟩
theorem Ki :
 (∀(γ:Bool) (st:St) (ag:Bool) (off:Nat) (n:Nat) e,jV γ st ag off n (.aw e)=oe γ ag off n (cellsOf e)) ∧
 (∀(γ:Bool) (st:St) (ag:Bool) (off:Nat) (n:Nat) id i f,jV γ st ag off n (.ptr id i f)=og off (hget st.h id) id i f) ∧
 (∀(γ:Bool) (st:St) (ag:Bool) (off:Nat) (n:Nat) id f,jV γ st ag off n (.ab id f)=.ok True (.ab id (f+off))):=
 ⟨(fun _ _ _ _ _ _=>rfl),(fun _ _ _ _ _ _ _ _=>rfl),(fun _ _ _ _ _ _ _=>rfl)⟩
theorem Kk :
 (∀(γ:Bool) (ag:Bool) (off:Nat) (n:Nat) cs,fldR γ ag off n (.agg cs)=.ok ((γ=true→off+n≤cs.length)∧0<n) (if ag then .agg ((cs.drop off).take n)else cs.getD off .undef)):=
 (fun _ _ _ _ _=>rfl)
theorem Dj :
 (∀(γ:Bool) (st:St) x,avalR γ st (.ah x)=andR (az γ (ev st x)) (.ok True (stripV (ev st x)))) ∧
 (∀(γ:Bool) (st:St) c x y,avalR γ st (.pick c x y)=andR (az γ (ev st c)) (pickR γ (stripV (ev st c)) (ev st x) (ev st y))) ∧
 (∀(γ:Bool) (st:St) op x y,avalR γ st (.bin op x y)=andR (az γ (ev st x)) (andR (az γ (ev st y)) (binR γ op (stripV (ev st x)) (stripV (ev st y))))) ∧
 (∀(γ:Bool) (st:St) neg x y,avalR γ st (.beq neg x y)=andR (az γ (ev st x)) (andR (az γ (ev st y)) (beqR neg (stripV (ev st x)) (stripV (ev st y))))) ∧
 (∀(γ:Bool) (st:St) op x,avalR γ st (.un op x)=andR (az γ (ev st x)) (unR op (stripV (ev st x)))) ∧
 (∀(γ:Bool) (st:St) k x,avalR γ st (.bh k x)=andR (az γ (ev st x)) (cviR k (stripV (ev st x)))) ∧
 (∀(γ:Bool) (st:St) k x,avalR γ st (.nG k x)=andR (az γ (ev st x)) (nH k (stripV (ev st x)))) ∧
 (∀(γ:Bool) (st:St) k x,avalR γ st (.nF k x)=andR (az γ (ev st x)) (cfiR γ k (stripV (ev st x)))) ∧
 (∀(γ:Bool) (st:St) x,avalR γ st (.nJ x)=andR (az γ (ev st x)) (cstR (stripV (ev st x)))) ∧
 (∀(γ:Bool) (st:St) x,avalR γ st (.fZ x)=andR (az γ (ev st x)) (btsR γ (slE 1 st (stripV (ev st x))))) ∧
 (∀(γ:Bool) (st:St) x y,avalR γ st (.nI x y)=andR (az γ (ev st x)) (andR (az γ (ev st y)) (cplxR (stripV (ev st x)) (stripV (ev st y))))) ∧
 (∀(γ:Bool) (st:St) x,avalR γ st (.re x)=andR (az γ (ev st x)) (reR (stripV (ev st x)))) ∧
 (∀(γ:Bool) (st:St) x,avalR γ st (.im x)=andR (az γ (ev st x)) (oI (stripV (ev st x)))) ∧
 (∀(γ:Bool) (st:St) str x,avalR γ st (.len str x)=andR (az γ (ev st x)) (lenR str (stripV (ev st x)))) ∧
 (∀(γ:Bool) (st:St) mx x y,avalR γ st (.mm mx x y)=andR (az γ (ev st x)) (andR (az γ (ev st y)) (mmR mx (stripV (ev st x)) (stripV (ev st y))))) ∧
 (∀(γ:Bool) (st:St) x i,avalR γ st (.ext x i)=andR (az γ (ev st x)) (extR (stripV (ev st x)) i)) ∧
 (∀(γ:Bool) (st:St) x,avalR γ st (.aq x)=andR (az γ (ev st x)) (nilcR (stripV (ev st x)))) ∧
 (∀(γ:Bool) (st:St) sz x i,avalR γ st (.aP sz x i)=andR (az γ (ev st x)) (andR (az γ (ev st i)) (idxR γ st sz (stripV (ev st x)) (stripV (ev st i))))) ∧
 (∀(γ:Bool) (st:St) x i,avalR γ st (.b7 x i)=andR (az γ (ev st x)) (andR (az γ (ev st i)) (sidxR γ (stripV (ev st x)) (stripV (ev st i))))) ∧
 (∀(γ:Bool) (st:St) ag n x,avalR γ st (.ld ag n x)=andR (az γ (ev st x)) (ldR γ st ag n (stripV (ev st x)))) ∧
 (∀(γ:Bool) (st:St) x lo hi,avalR γ st (.bX x lo hi)=andR (az γ (ev st x)) (pD γ st lo hi (stripV (ev st x)))) ∧
 (∀(γ:Bool) (st:St) sz x lo hi,avalR γ st (.fT sz x lo hi)=andR (az γ (ev st x)) (slcAR γ st sz lo hi (stripV (ev st x)))) ∧
 (∀(γ:Bool) (st:St) ag off n x,avalR γ st (.an ag off n x)=andR (az γ (ev st x)) (jV γ st ag off n (stripV (ev st x)))) ∧
 (∀(γ:Bool) (st:St) ag off n x,avalR γ st (.od ag off n x)=andR (az γ (ev st x)) (fldR γ ag off n (stripV (ev st x)))):=
 ⟨(fun _ _ _=>rfl),(fun _ _ _ _ _=>rfl),(fun _ _ _ _ _=>rfl),(fun _ _ _ _ _=>rfl),(fun _ _ _ _=>rfl),(fun _ _ _ _=>rfl),(fun _ _ _ _=>rfl),(fun _ _ _ _=>rfl),(fun _ _ _=>rfl),(fun _ _ _=>rfl),(fun _ _ _ _=>rfl),(fun _ _ _=>rfl),(fun _ _ _=>rfl),(fun _ _ _ _=>rfl),(fun _ _ _ _ _=>rfl),(fun _ _ _ _=>rfl),(fun _ _ _=>rfl),(fun _ _ _ _ _=>rfl),(fun _ _ _ _=>rfl),(fun _ _ _ _ _=>rfl),(fun _ _ _ _ _=>rfl),(fun _ _ _ _ _ _=>rfl),(fun _ _ _ _ _ _=>rfl),(fun _ _ _ _ _ _=>rfl)⟩
theorem El (γ:Bool) (st:St) (cs:List AV):bldR γ st [] cs=.ok True (.agg cs):=(rfl)
theorem Ek (γ:Bool) (st:St) (o n:Nat) (x:AE) (r:List (Nat×Nat×AE)) (cs:List AV) :
    bldR γ st ((o,n,x)::r) cs=andR (az γ (ev st x)) (andR (γ=true→aY (stripV (ev st x))=true∧(cellsOf (stripV (ev st x))).length=n∧o+n≤cs.length) (bldR γ st r (cs.take o++cellsOf (stripV (ev st x))++cs.drop (o+n)))):=(rfl)
theorem Dh (γ:Bool) (st:St) (z:List AV) (ps:List (Nat×Nat×AE)):avalR γ st (.bQ z ps)=bldR γ st ps z:=(rfl)
theorem Dk (γ:Bool) (st:St) (len sz:Nat) (x i:AE):avalR γ st (.eG len sz x i)=andR (az γ (ev st x)) (andR (az γ (ev st i)) (idxPR γ len sz (stripV (ev st x)) (stripV (ev st i)))):=(rfl)
theorem Dl (γ:Bool) (st:St) (len:Nat) (x i:AE):avalR γ st (.kV len x i)=andR (az γ (ev st x)) (andR (az γ (ev st i)) (idxVR γ len (stripV (ev st x)) (stripV (ev st i)))):=(rfl)
theorem Dt (γ:Bool) (st:St) (neg:Bool) (x:AE):avalR γ st (.jz neg x)=andR (az γ (ev st x)) (snilR γ st neg (stripV (ev st x))):=(rfl)
theorem OA (γ:Bool) (len sz:Nat) (cs:List AV) (k:IntKind) (i:Int):idxPR γ len sz (.aw (.agg cs)) (.int k i)=.ok ((γ=true→0≤i∧i<len∧i<cs.length)∧sz=1∧isCell (cs.getD i.toNat .undef)=true) (.aw (cs.getD i.toNat .undef)):=(rfl)
theorem OB (γ:Bool) (len sz id f:Nat) (k:IntKind) (i:Int):idxPR γ len sz (.ab id f) (.int k i)=.ok (γ=true→0≤i∧i<len) (.ab id (f+i.toNat*sz)):=(rfl)
theorem OE (γ:Bool) (len:Nat) (cs:List AV) (k:IntKind) (i:Int):idxVR γ len (.agg cs) (.int k i)=.ok (γ=true→0≤i∧i<len∧i<cs.length) (cs.getD i.toNat .undef):=(rfl)
theorem aqz (γ neg:Bool) (n sz:Nat) (es:List AV):pE γ neg n (some (.arr sz es))=.ok (γ=true→0<n) (.bool neg):=(rfl)
theorem Dm (γ:Bool) (st:St) (neg:Bool) (x:AE):avalR γ st (.kY neg x)=andR (az γ (ev st x)) (inilR γ neg (stripV (ev st x))):=(rfl)
theorem Dp (γ:Bool) (st:St) (t:TypeId) (x:AE):avalR γ st (.oV t x)=andR (az γ (ev st x)) (mkiR t (stripV (ev st x))):=(rfl)
theorem Di (γ:Bool) (st:St) (x:AE):avalR γ st (.nP x)=andR (az γ (ev st x)) (nQ (stripV (ev st x))):=(rfl)
def j6 (st:St):List AE→List AV
 | []=>[]
 | x::r=>ev st x::j6 st r
theorem xK (st:St):∀l,l.map (ev st)=j6 st l
 | []=>rfl
 | x::r=>by rw[List.map_cons,xK st r];rfl
theorem XB (st:St):j6 st []=[]∧(∀x r,j6 st (x::r)=ev st x::j6 st r):=⟨rfl,fun _ _=>rfl⟩
theorem atf:kq []=true∧(∀i f r,kq (.ab i f::r)=kq r):=⟨rfl,fun _ _ _=>rfl⟩
theorem Dn (γ:Bool) (st:St) (f:Nat) (xs:List AE):avalR γ st (.oU f xs)=.ok (kq (j6 st xs)=true) (.aK f (j6 st xs)):=by rw[←xK];rfl
theorem TS (f:Nat) (cs:List AV) (a:AV):keep1 (.aK f cs) a=[]:=(rfl)
theorem TU (p f g:Nat) (cs:List AV):keep1 (.ab p f) (.aK g cs)=[]:=(rfl)
theorem DW (s:List (Nat×AV)) (h:HP) (k0 f:Nat) (cs:List AV):back1 s h k0 (.aK f cs)=[]:=(rfl)
theorem Hm (k:IntKind) (n:Int):nQ (.int k n)=.ok True (.str (Utf8.encode n).data.toList):=(rfl)
theorem XK (t:TypeId):mkiR t (.agg [])=.ok True (.lit (.iface t (.agg #[]))):=(rfl)
theorem XJ (t:TypeId) (k:IntKind) (n:Int):mkiR t (.int k n)=.ok True (.lit (.iface t (.int k n))):=(rfl)
theorem XM (id:Nat) (st:St) (sz bytes:Nat) (z:List AV) (n m:Int):mksR id st sz bytes z (.int .i64 n) (.int .i64 m)=.ok (0≤n∧m=n∧n≤16777216∧n*bytes≤16777216∧z.all noRefC=true∧z.length=sz) (.sl id 0 n.toNat) (bT st id (.arr sz (List.replicate n.toNat (packC z)))):=(rfl)
theorem Dr (γ:Bool) (st:St) (neg:Bool) (x:AE):avalR γ st (.ln neg x)=andR (az γ (ev st x)) (pnilR neg (stripV (ev st x))):=(rfl)
theorem ZI (neg:Bool) (x:AV):pnilR neg (.aw x)=.ok True (.bool neg):=(rfl)
theorem ZK (neg:Bool) (i f:Nat):pnilR neg (.ab i f)=.ok True (.bool neg):=(rfl)
theorem ZJ (neg:Bool):pnilR neg (.lit (.pointer none))=.ok True (.bool (!neg)):=(rfl)
theorem PW (γ neg:Bool):inilR γ neg (.lit .nilIface)=.ok True (.bool (if neg then false else true)):=by cases neg<;>simp[inilR,isNilV,isIfV]
theorem PV (γ neg:Bool) (t:TypeId) (v:Value):inilR γ neg (.lit (.iface t v))=.ok True (.bool (if neg then true else false)):=by cases neg<;>simp[inilR,isNilV,isIfV]
theorem Dq (γ:Bool) (st:St) kd ok z (x i:AE):avalR γ st (.oW kd ok z x i)=andR (az γ (ev st x)) (andR (az γ (ev st i)) (mlkR st kd ok z (stripV (ev st x)) (stripV (ev st i)))):=(rfl)
theorem XI (l:List UInt8):mkOf (.str l)=some (.s l):=(rfl)
theorem XH (k:IntKind) (n:Int):mkOf (.int k n)=some (.i k n):=(rfl)
theorem XQ (st:St) kd ok z id i f (x:AV):mlkR st kd ok z (.ptr id i f) x=mlkK st kd ok z id (mkOf x):=(rfl)
theorem XO (st:St) kd ok z id k:mlkK st kd ok z id (some k)=mlkW kd ok z k (hget st.h id):=(rfl)
theorem XR kd ok z k kd' (l:List (MK×AV)):mlkW kd ok z k (some (.mp kd' l))=.ok (kd'=kd∧MK.ok kd k) (l9 ok z (mfind l k)):=(rfl)
theorem XY (z:AV) (o:Option AV):l9 true z o=.ai [o.getD z,.bool o.isSome]:=(rfl)
theorem XW (z:AV) (o:Option AV):l9 false z o=o.getD z:=(rfl)
theorem BQ (b:List UInt8):MK.ok none (.s b)=True:=(rfl)
theorem BP (k k':IntKind) (n:Int):MK.ok (some k) (.i k' n)=(k'=k):=(rfl)
theorem X1 (st:St) kd id i f (k v:AV):mupR st kd (.ptr id i f) k v=mupK st id kd (mkOf k) v:=(rfl)
theorem XZ (st:St) id kd k (v:AV):mupK st id kd (some k) v=mupW st id kd k v (hget st.h id):=(rfl)
theorem X2 (st:St) id kd k (v:AV) kd' (l:List (MK×AV)):mupW st id kd k v (some (.mp kd' l))=.ok (kd'=kd∧MK.ok kd k∧bJ v=true) .undef ⟨st.s,bP st.h id (.mp kd (mput l k v))⟩:=(rfl)
theorem IK (id:Nat) (st:St) kd:effR id st (.k8 kd)=.ok True (.ptr id 0 0) (bT st id (.mp kd [])):=(rfl)
theorem IL (id:Nat) (st:St) kd x k v:effR id st (.ma kd x k v)=mupR st kd (ev st x) (ev st k) (ev st v):=(rfl)
theorem aqy :
 (∀(γ:Bool) (st:St) (neg:Bool),snilR γ st neg (.aj)=.ok True (.bool (!neg))) ∧
 (∀(γ:Bool) (st:St) (neg:Bool) id o n,snilR γ st neg (.sl id o n)=pE γ neg n (hget st.h id)) ∧
 (∀(γ:Bool) (st:St) (neg:Bool) sz es,snilR γ st neg (.ro sz es)=.ok (γ=true→0<es.length∧0<sz) (.bool neg)):=
 ⟨(fun _ _ _=>rfl),(fun _ _ _ _ _ _=>rfl),(fun _ _ _ _ _=>rfl)⟩
theorem T4 :
 (∀(st:St) (id:Nat) (o:Nat) (n:Nat) sz es,keepSl st id o n (some (.arr sz es))=.ok True (.ro sz (aI es o n)) (freeze st id)):=
 (fun _ _ _ _ _ _=>rfl)
theorem al1 :
 (∀(c:Prop) (v:AV) d vs st,rl2 c v (.ok d vs st)=.ok (c∧d) (v::vs) st) ∧
 (∀(c:Prop) (v:AV),rl2 c v (.fail)=.fail):=
 ⟨(fun _ _ _ _ _=>rfl),(fun _ _=>rfl)⟩
theorem al0 :
 (∀(r:List AE) c v st1,sw r (.ok c v st1)=rl2 c v (keepLR r st1)) ∧
 (∀(r:List AE),sw r (.fail)=.fail):=
 ⟨(fun _ _ _ _=>rfl),(fun _=>rfl)⟩
theorem FJ :
 (∀(id:Nat) (sz:Nat) c es st',lJ id sz (.ok c es st')=.ok (c∧es.all (fun e=>(cellsOf e).length==sz)=true) (.sl id 0 es.length) (bT st' id (.arr sz es))) ∧
 (∀(id:Nat) (sz:Nat),lJ id sz (.fail)=.fail):=
 ⟨(fun _ _ _ _ _=>rfl),(fun _ _=>rfl)⟩
theorem C4 :
 (∀(st:St) (sz:Nat) (bytes:Nat) (id:Nat) (off:Nat) (n:Nat) (xs:List AV) sz' es,nj st sz bytes id off n xs (some (.arr sz' es))=.ok (xs.all aY=true∧sz'=sz∧(aI es off n).all aY=true∧(n+xs.length)*bytes≤140737488355328∧n+xs.length≤9223372036854775807) (.sl id 0 (n+xs.length)) (bT st id (.arr sz (aI es off n++xs)))):=
 (fun _ _ _ _ _ _ _ _ _=>rfl)
theorem C3 :
 (∀(d:Nat) (st:St) (sz:Nat) (bytes:Nat) xs,appR d st sz bytes (.aj) (some xs)=.ok (xs.all aY=true∧xs.length*bytes≤140737488355328∧xs.length≤9223372036854775807) (.sl d 0 xs.length) (bT st d (.arr sz xs))) ∧
 (∀(d:Nat) (st:St) (sz:Nat) (bytes:Nat) xs id off n,appR d st sz bytes (.sl id off n) (some xs)=nj st sz bytes id off n xs (hget st.h id)):=
 ⟨(fun _ _ _ _ _=>rfl),(fun _ _ _ _ _ _ _ _=>rfl)⟩
theorem aqY :
 (∀(st:St) (n:Nat) (id:Nat) (i:Nat) (f:Nat) (v:AV) sz es,pH st n id i f v (some (.arr sz es))=.ok ((cellsOf v).length=n∧0<n∧f+n≤sz) .undef ⟨st.s,bP st.h id (.arr sz (es.set i (hZ (nth es i) f v)))⟩):=
 (fun _ _ _ _ _ _ _ _=>rfl)
theorem aqS :
 (∀(n:Nat) (id:Nat) (i:Nat) (f:Nat) (c:Prop) (v:AV) (st:St) d u st',mI n id i f c v st (.ok d u st')=.ok (c∧d) u st') ∧
 (∀(n:Nat) (id:Nat) (i:Nat) (f:Nat) (c:Prop) (v:AV) (st:St),mI n id i f c v st (.fail)=.fail):=
 ⟨(fun _ _ _ _ _ _ _ _ _ _=>rfl),(fun _ _ _ _ _ _ _=>rfl)⟩
theorem aqT :
 (∀(n:Nat) (id:Nat) (i:Nat) (f:Nat) c v st,mH n id i f (.ok c v st)=mI n id i f c v st (pH st n id i f v (hget st.h id))) ∧
 (∀(n:Nat) (id:Nat) (i:Nat) (f:Nat),mH n id i f (.fail)=.fail):=
 ⟨(fun _ _ _ _ _ _ _=>rfl),(fun _ _ _ _=>rfl)⟩
theorem aqX :
 (∀(st:St) (n:Nat) (id:Nat) (f:Nat) (v:AV) cs,stV st n id f v (some (.var cs))=.ok (aY v=true∧(cellsOf v).length=n∧f+n≤cs.length) .undef ⟨st.s,bP st.h id (.var (c7 cs f (cellsOf v)))⟩):=
 (fun _ _ _ _ _ _=>rfl)
theorem aqV :
 (∀(st:St) (n:Nat) (v:AV) id i f,stR st n (.ptr id i f) v=mH n id i f (keepR st v)) ∧
 (∀(st:St) (n:Nat) (v:AV) id f,stR st n (.ab id f) v=stV st n id f v (hget st.h id)):=
 ⟨(fun _ _ _ _ _ _=>rfl),(fun _ _ _ _ _=>rfl)⟩
theorem aq3 :
 (∀(st:St) (id:Nat) l,stbR st id (.str l)=.ok True (.sl id 0 l.length) (bT st id (.arr 1 (l.map ub)))):=
 (fun _ _ _=>rfl)
theorem IJ :
 (∀(id:Nat) (st:St) z,effR id st (.alloc z)=.ok (z.all noRefC=true) (.ab id 0) (bT st id (.var (z.map (killC id))))) ∧
 (∀(id:Nat) (st:St) n x,effR id st (.box n x)=.ok (aY (ev st x)=true∧(cellsOf (ev st x)).length=n) (.ab id 0) (bT st id (.var ((cellsOf (ev st x)).map (killC id))))) ∧
 (∀(id:Nat) (st:St) sz xs,effR id st (.a6 sz xs)=lJ id sz (keepLR xs st)) ∧
 (∀(id:Nat) (st:St) sz bytes s x,effR id st (.app sz bytes s x)=appR id st sz bytes (ev st s) (srcE sz st (ev st x))) ∧
 (∀(id:Nat) (st:St) n x v,effR id st (.st n x v)=stR st n (ev st x) (ev st v)) ∧
 (∀(id:Nat) (st:St) sz b z l c,effR id st (.jr sz b z l c)=mksR id st sz b z (ev st l) (ev st c)) ∧
 (∀(id:Nat) (st:St) x,effR id st (.kj x)=stbR st id (ev st x)):=
 ⟨(fun _ _ _=>rfl),(fun _ _ _ _=>rfl),(fun _ _ _ _=>rfl),(fun _ _ _ _ _ _=>rfl),(fun _ _ _ _ _=>rfl),(fun _ _ _ _ _ _ _=>rfl),(fun _ _ _=>rfl)⟩
attribute [go_sem] Dr ZI ZK ZJ Dq XI XH XQ XO XR XY XW BQ BP X1 XZ X2 IK IL Option.isSome_some Option.isSome_none Option.getD_some Option.getD_none XB atf Dn TS TU DW Jh ZP Lr Ya Ud Lb alb TP PD Ka PB J5 X6 YH ala ak9 aqW aqR aqQ OI OH apD TM TV TW TX TT DR D1 DY D0 DX Cy aqM apC F5 aoD Zk Zz ZA T3 CJ PZ aq9 J8 Hq Ed D6 Jd Pj Ja Jf Je Jc Jb Cu Dg asd Hl GD Gs Hg FL Hf ak1 Py VO XU Ji Yc OG OD apm VD Vx VC VB DN DP DQ E7 apK apI apG apH apJ apF Kl Kj Ki Kk Dj El Ek Dh Dk Dl Dt OB OA OE aqz aqy Dm PW PV Dp XK XJ XM Di Hm T4 al1 al0 FJ C4 C3 aqY aqS aqT aqX aqV aq3 IJ Hj Hi aoG aoF Fm T1 T0 Fo T6 T5 Ue K5 K4 Lc ak8 ak7 alc TR TQ TN Fs Ft D3 Fj Fp Yd J4 RO Yf Ye J2 J9 Kt Ks J6 PA Pz PC ard arc
end Go.Proofs.YtlkmppkcbhodaaaGreatDoor.Eng
