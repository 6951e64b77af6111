/- The proof, part 7 of 34. -/
import Derived.Test.YtlkmppkcbhodaaaGreatDoorLooseWritesF
set_option linter.all false
namespace Go.Proofs.YtlkmppkcbhodaaaGreatDoor.Eng
def cu (b:Bool) (x:AV):AV:=match b with
 | true=>.undef
 | false=>x
def iL (b:Bool) (x y:AV):AV:=match b with
 | true=>x
 | false=>y
theorem fD {i j:Nat} {x:AV}:(if i=j then AV.undef else x)=cu (i==j) x:=by
 by_cases h:i=j
 ·subst h;rw[if_pos rfl,show(i==i)=true by simp];rfl
 ·rw[if_neg h,show(i==j)=false by simp[h]];rfl
theorem sc {i j:Nat} {x y:AV}:(if i=j then x else y)=iL (i==j) x y:=by
 by_cases h:i=j
 ·subst h;rw[if_pos rfl,show(i==i)=true by simp];rfl
 ·rw[if_neg h,show(i==j)=false by simp[h]];rfl
theorem iZ {b:Bool} {x:AV}:(if b=true then AV.undef else x)=cu b x:=by cases b<;>rfl
theorem sd {b:Bool} {x y:AV}:(if b=true then x else y)=iL b x y:=by cases b<;>rfl
theorem Ir {x:AV}:cu true x=.undef:=(rfl)
theorem Iq {x:AV}:cu false x=x:=(rfl)
theorem aoo {x y:AV}:iL true x y=x:=(rfl)
theorem aon {x y:AV}:iL false x y=y:=(rfl)
def borSl (W:Option aI) (o n:Nat):AV:=match W with
 | some (.arr sz es)=>.ro sz (aL es o n)
 | _=>.undef
theorem Gw {sz o n:Nat} {es:List AV}:borSl (some (.arr sz es)) o n=.ro sz (aL es o n):=(rfl)
def keepO (W:Option aI) (x y:AV):AV:=match W with
 | some _=>x
 | none=>y
theorem We {W:aI} {x y:AV}:keepO (some W) x y=x:=(rfl)
theorem Wd {x y:AV}:keepO none x y=y:=(rfl)
def borV (h0 h:HP) (W:Option aI) (f:Nat):AV:=match W,f with
 | some (.var cs),0=>.au (packC (cs.map (bcell h0 h)))
 | _,_=>.undef
theorem Gx {h0 h:HP} {cs:List AV}:borV h0 h (some (.var cs)) 0=.au (packC (cs.map (bcell h0 h))):=(rfl)
theorem Wj (id:Nat) :
 (killC id AV.undef=AV.undef) ∧
 (∀(b:Bool),killC id (.bool b)=(.bool b)) ∧
 (∀(k:IntKind) (n:Int),killC id (.int k n)=(.int k n)) ∧
 (∀(k:FloatKind) (n:Nat),killC id (.fl k n)=(.fl k n)) ∧
 (∀(k:FloatKind) (a b:Nat),killC id (.cx k a b)=(.cx k a b)) ∧
 (∀(l:List UInt8),killC id (.str l)=(.str l)) ∧
 (∀(x:Value),killC id (.lit x)=(.lit x)) ∧
 (killC id AV.al=AV.al) ∧
 (∀(sz0:Nat) (es0:List AV),killC id (.ro sz0 es0)=(.ro sz0 es0)) ∧
 (∀(x:AV),killC id (.au x)=(.au x)) ∧
 (∀(i o n:Nat),killC id (.sl i o n)=cu (i==id) (.sl i o n)) ∧
 (∀(i j f:Nat),killC id (.ptr i j f)=cu (i==id) (.ptr i j f)) ∧
 (∀(i f:Nat),killC id (.ab i f)=cu (i==id) (.ab i f)) ∧
 (∀(cs:List AV),killC id (.agg cs)=AV.undef) ∧
 (∀(cs:List AV),killC id (.aj cs)=AV.undef) ∧
 (∀(b:Bool) (x:AV),killC id (.gd b x)=AV.undef) ∧
 (∀(f:Nat) (cs:List AV),killC id (.aK f cs)=AV.undef):=
 ⟨rfl,fun _=>rfl,fun _ _=>rfl,fun _ _=>rfl,fun _ _ _=>rfl,fun _=>rfl,fun _=>rfl,rfl,fun _ _=>rfl,fun _=>rfl,fun _ _ _=>fD,fun _ _ _=>fD,fun _ _=>fD,fun _=>rfl,fun _=>rfl,fun _ _=>rfl,fun _ _=>rfl⟩
theorem Wi (id:Nat) :
 (killA id AV.undef=AV.undef) ∧
 (∀(b:Bool),killA id (.bool b)=(.bool b)) ∧
 (∀(k:IntKind) (n:Int),killA id (.int k n)=(.int k n)) ∧
 (∀(k:FloatKind) (n:Nat),killA id (.fl k n)=(.fl k n)) ∧
 (∀(k:FloatKind) (a b:Nat),killA id (.cx k a b)=(.cx k a b)) ∧
 (∀(l:List UInt8),killA id (.str l)=(.str l)) ∧
 (∀(x:Value),killA id (.lit x)=(.lit x)) ∧
 (killA id AV.al=AV.al) ∧
 (∀(sz0:Nat) (es0:List AV),killA id (.ro sz0 es0)=(.ro sz0 es0)) ∧
 (∀(x:AV),killA id (.au x)=(.au x)) ∧
 (∀(i o n:Nat),killA id (.sl i o n)=cu (i==id) (.sl i o n)) ∧
 (∀(i j f:Nat),killA id (.ptr i j f)=cu (i==id) (.ptr i j f)) ∧
 (∀(i f:Nat),killA id (.ab i f)=cu (i==id) (.ab i f)) ∧
 (∀(cs:List AV),killA id (.agg cs)=.agg (cs.map (killC id))) ∧
 (∀(cs:List AV),killA id (.aj cs)=AV.undef) ∧
 (∀(b:Bool) (x:AV),killA id (.gd b x)=AV.undef) ∧
 (∀(f:Nat) (cs:List AV),killA id (.aK f cs)=.aK f (cs.map (killC id))):=
 ⟨rfl,fun _=>rfl,fun _ _=>rfl,fun _ _=>rfl,fun _ _ _=>rfl,fun _=>rfl,fun _=>rfl,rfl,fun _ _=>rfl,fun _=>rfl,fun _ _ _=>fD,fun _ _ _=>fD,fun _ _=>fD,fun _=>rfl,fun _=>rfl,fun _ _=>rfl,fun _ _=>rfl⟩
theorem Ws (id:Nat) :
 (kill id AV.undef=AV.undef) ∧
 (∀(b:Bool),kill id (.bool b)=(.bool b)) ∧
 (∀(k:IntKind) (n:Int),kill id (.int k n)=(.int k n)) ∧
 (∀(k:FloatKind) (n:Nat),kill id (.fl k n)=(.fl k n)) ∧
 (∀(k:FloatKind) (a b:Nat),kill id (.cx k a b)=(.cx k a b)) ∧
 (∀(l:List UInt8),kill id (.str l)=(.str l)) ∧
 (∀(x:Value),kill id (.lit x)=(.lit x)) ∧
 (kill id AV.al=AV.al) ∧
 (∀(sz0:Nat) (es0:List AV),kill id (.ro sz0 es0)=(.ro sz0 es0)) ∧
 (∀(x:AV),kill id (.au x)=(.au x)) ∧
 (∀(i o n:Nat),kill id (.sl i o n)=cu (i==id) (.sl i o n)) ∧
 (∀(i j f:Nat),kill id (.ptr i j f)=cu (i==id) (.ptr i j f)) ∧
 (∀(i f:Nat),kill id (.ab i f)=cu (i==id) (.ab i f)) ∧
 (∀(cs:List AV),kill id (.agg cs)=.agg (cs.map (killC id))) ∧
 (∀(cs:List AV),kill id (.aj cs)=.aj (cs.map (killA id))) ∧
 (∀(b:Bool) (x:AV),kill id (.gd b x)=.gd b (killA id x)) ∧
 (∀(f:Nat) (cs:List AV),kill id (.aK f cs)=.aK f (cs.map (killC id))):=
 ⟨rfl,fun _=>rfl,fun _ _=>rfl,fun _ _=>rfl,fun _ _ _=>rfl,fun _=>rfl,fun _=>rfl,rfl,fun _ _=>rfl,fun _=>rfl,fun _ _ _=>fD,fun _ _ _=>fD,fun _ _=>fD,fun _=>rfl,fun _=>rfl,fun _ _=>rfl,fun _ _=>rfl⟩
theorem LV (id sz:Nat) (es:List AV) :
 (cm id sz es AV.undef=AV.undef) ∧
 (∀(b:Bool),cm id sz es (.bool b)=(.bool b)) ∧
 (∀(k:IntKind) (n:Int),cm id sz es (.int k n)=(.int k n)) ∧
 (∀(k:FloatKind) (n:Nat),cm id sz es (.fl k n)=(.fl k n)) ∧
 (∀(k:FloatKind) (a b:Nat),cm id sz es (.cx k a b)=(.cx k a b)) ∧
 (∀(l:List UInt8),cm id sz es (.str l)=(.str l)) ∧
 (∀(x:Value),cm id sz es (.lit x)=(.lit x)) ∧
 (cm id sz es AV.al=AV.al) ∧
 (∀(sz0:Nat) (es0:List AV),cm id sz es (.ro sz0 es0)=(.ro sz0 es0)) ∧
 (∀(x:AV),cm id sz es (.au x)=(.au x)) ∧
 (∀(i o n:Nat),cm id sz es (.sl i o n)=iL (i==id) (.ro sz (aL es o n)) (.sl i o n)) ∧
 (∀(i j f:Nat),cm id sz es (.ptr i j f)=cu (i==id) (.ptr i j f)) ∧
 (∀(i f:Nat),cm id sz es (.ab i f)=cu (i==id) (.ab i f)) ∧
 (∀(cs:List AV),cm id sz es (.agg cs)=AV.undef) ∧
 (∀(cs:List AV),cm id sz es (.aj cs)=AV.undef) ∧
 (∀(b:Bool) (x:AV),cm id sz es (.gd b x)=AV.undef) ∧
 (∀(f:Nat) (cs:List AV),cm id sz es (.aK f cs)=AV.undef):=
 ⟨rfl,fun _=>rfl,fun _ _=>rfl,fun _ _=>rfl,fun _ _ _=>rfl,fun _=>rfl,fun _=>rfl,rfl,fun _ _=>rfl,fun _=>rfl,fun _ _ _=>sc,fun _ _ _=>fD,fun _ _=>fD,fun _=>rfl,fun _=>rfl,fun _ _=>rfl,fun _ _=>rfl⟩
theorem LU (id sz:Nat) (es:List AV) :
 (cW id sz es AV.undef=AV.undef) ∧
 (∀(b:Bool),cW id sz es (.bool b)=(.bool b)) ∧
 (∀(k:IntKind) (n:Int),cW id sz es (.int k n)=(.int k n)) ∧
 (∀(k:FloatKind) (n:Nat),cW id sz es (.fl k n)=(.fl k n)) ∧
 (∀(k:FloatKind) (a b:Nat),cW id sz es (.cx k a b)=(.cx k a b)) ∧
 (∀(l:List UInt8),cW id sz es (.str l)=(.str l)) ∧
 (∀(x:Value),cW id sz es (.lit x)=(.lit x)) ∧
 (cW id sz es AV.al=AV.al) ∧
 (∀(sz0:Nat) (es0:List AV),cW id sz es (.ro sz0 es0)=(.ro sz0 es0)) ∧
 (∀(x:AV),cW id sz es (.au x)=(.au x)) ∧
 (∀(i o n:Nat),cW id sz es (.sl i o n)=iL (i==id) (.ro sz (aL es o n)) (.sl i o n)) ∧
 (∀(i j f:Nat),cW id sz es (.ptr i j f)=cu (i==id) (.ptr i j f)) ∧
 (∀(i f:Nat),cW id sz es (.ab i f)=cu (i==id) (.ab i f)) ∧
 (∀(cs:List AV),cW id sz es (.agg cs)=.agg (cs.map (cm id sz es))) ∧
 (∀(cs:List AV),cW id sz es (.aj cs)=AV.undef) ∧
 (∀(b:Bool) (x:AV),cW id sz es (.gd b x)=AV.undef) ∧
 (∀(f:Nat) (cs:List AV),cW id sz es (.aK f cs)=.aK f (cs.map (cm id sz es))):=
 ⟨rfl,fun _=>rfl,fun _ _=>rfl,fun _ _=>rfl,fun _ _ _=>rfl,fun _=>rfl,fun _=>rfl,rfl,fun _ _=>rfl,fun _=>rfl,fun _ _ _=>sc,fun _ _ _=>fD,fun _ _=>fD,fun _=>rfl,fun _=>rfl,fun _ _=>rfl,fun _ _=>rfl⟩
theorem L6 (id sz:Nat) (es:List AV) :
 (bK id sz es AV.undef=AV.undef) ∧
 (∀(b:Bool),bK id sz es (.bool b)=(.bool b)) ∧
 (∀(k:IntKind) (n:Int),bK id sz es (.int k n)=(.int k n)) ∧
 (∀(k:FloatKind) (n:Nat),bK id sz es (.fl k n)=(.fl k n)) ∧
 (∀(k:FloatKind) (a b:Nat),bK id sz es (.cx k a b)=(.cx k a b)) ∧
 (∀(l:List UInt8),bK id sz es (.str l)=(.str l)) ∧
 (∀(x:Value),bK id sz es (.lit x)=(.lit x)) ∧
 (bK id sz es AV.al=AV.al) ∧
 (∀(sz0:Nat) (es0:List AV),bK id sz es (.ro sz0 es0)=(.ro sz0 es0)) ∧
 (∀(x:AV),bK id sz es (.au x)=(.au x)) ∧
 (∀(i o n:Nat),bK id sz es (.sl i o n)=iL (i==id) (.ro sz (aL es o n)) (.sl i o n)) ∧
 (∀(i j f:Nat),bK id sz es (.ptr i j f)=cu (i==id) (.ptr i j f)) ∧
 (∀(i f:Nat),bK id sz es (.ab i f)=cu (i==id) (.ab i f)) ∧
 (∀(cs:List AV),bK id sz es (.agg cs)=.agg (cs.map (cm id sz es))) ∧
 (∀(cs:List AV),bK id sz es (.aj cs)=.aj (cs.map (cW id sz es))) ∧
 (∀(b:Bool) (x:AV),bK id sz es (.gd b x)=.gd b (cW id sz es x)) ∧
 (∀(f:Nat) (cs:List AV),bK id sz es (.aK f cs)=.aK f (cs.map (cm id sz es))):=
 ⟨rfl,fun _=>rfl,fun _ _=>rfl,fun _ _=>rfl,fun _ _ _=>rfl,fun _=>rfl,fun _=>rfl,rfl,fun _ _=>rfl,fun _=>rfl,fun _ _ _=>sc,fun _ _ _=>fD,fun _ _=>fD,fun _=>rfl,fun _=>rfl,fun _ _=>rfl,fun _ _=>rfl⟩
theorem ak2 (id id':Nat) :
 (cd id id' AV.undef=AV.undef) ∧
 (∀(b:Bool),cd id id' (.bool b)=(.bool b)) ∧
 (∀(k:IntKind) (n:Int),cd id id' (.int k n)=(.int k n)) ∧
 (∀(k:FloatKind) (n:Nat),cd id id' (.fl k n)=(.fl k n)) ∧
 (∀(k:FloatKind) (a b:Nat),cd id id' (.cx k a b)=(.cx k a b)) ∧
 (∀(l:List UInt8),cd id id' (.str l)=(.str l)) ∧
 (∀(x:Value),cd id id' (.lit x)=(.lit x)) ∧
 (cd id id' AV.al=AV.al) ∧
 (∀(sz0:Nat) (es0:List AV),cd id id' (.ro sz0 es0)=(.ro sz0 es0)) ∧
 (∀(x:AV),cd id id' (.au x)=(.au x)) ∧
 (∀(i o n:Nat),cd id id' (.sl i o n)=.sl (rn id id' i) o n) ∧
 (∀(i j f:Nat),cd id id' (.ptr i j f)=.ptr (rn id id' i) j f) ∧
 (∀(i f:Nat),cd id id' (.ab i f)=.ab (rn id id' i) f) ∧
 (∀(cs:List AV),cd id id' (.agg cs)=AV.undef) ∧
 (∀(cs:List AV),cd id id' (.aj cs)=AV.undef) ∧
 (∀(b:Bool) (x:AV),cd id id' (.gd b x)=AV.undef) ∧
 (∀(f:Nat) (cs:List AV),cd id id' (.aK f cs)=AV.undef):=
 ⟨rfl,fun _=>rfl,fun _ _=>rfl,fun _ _=>rfl,fun _ _ _=>rfl,fun _=>rfl,fun _=>rfl,rfl,fun _ _=>rfl,fun _=>rfl,fun _ _ _=>rfl,fun _ _ _=>rfl,fun _ _=>rfl,fun _=>rfl,fun _=>rfl,fun _ _=>rfl,fun _ _=>rfl⟩
theorem ak1 (id id':Nat) :
 (cN id id' AV.undef=AV.undef) ∧
 (∀(b:Bool),cN id id' (.bool b)=(.bool b)) ∧
 (∀(k:IntKind) (n:Int),cN id id' (.int k n)=(.int k n)) ∧
 (∀(k:FloatKind) (n:Nat),cN id id' (.fl k n)=(.fl k n)) ∧
 (∀(k:FloatKind) (a b:Nat),cN id id' (.cx k a b)=(.cx k a b)) ∧
 (∀(l:List UInt8),cN id id' (.str l)=(.str l)) ∧
 (∀(x:Value),cN id id' (.lit x)=(.lit x)) ∧
 (cN id id' AV.al=AV.al) ∧
 (∀(sz0:Nat) (es0:List AV),cN id id' (.ro sz0 es0)=(.ro sz0 es0)) ∧
 (∀(x:AV),cN id id' (.au x)=(.au x)) ∧
 (∀(i o n:Nat),cN id id' (.sl i o n)=.sl (rn id id' i) o n) ∧
 (∀(i j f:Nat),cN id id' (.ptr i j f)=.ptr (rn id id' i) j f) ∧
 (∀(i f:Nat),cN id id' (.ab i f)=.ab (rn id id' i) f) ∧
 (∀(cs:List AV),cN id id' (.agg cs)=.agg (cs.map (cd id id'))) ∧
 (∀(cs:List AV),cN id id' (.aj cs)=AV.undef) ∧
 (∀(b:Bool) (x:AV),cN id id' (.gd b x)=AV.undef) ∧
 (∀(f:Nat) (cs:List AV),cN id id' (.aK f cs)=.aK f (cs.map (cd id id'))):=
 ⟨rfl,fun _=>rfl,fun _ _=>rfl,fun _ _=>rfl,fun _ _ _=>rfl,fun _=>rfl,fun _=>rfl,rfl,fun _ _=>rfl,fun _=>rfl,fun _ _ _=>rfl,fun _ _ _=>rfl,fun _ _=>rfl,fun _=>rfl,fun _=>rfl,fun _ _=>rfl,fun _ _=>rfl⟩
theorem ak6 (id id':Nat) :
 (dI id id' AV.undef=AV.undef) ∧
 (∀(b:Bool),dI id id' (.bool b)=(.bool b)) ∧
 (∀(k:IntKind) (n:Int),dI id id' (.int k n)=(.int k n)) ∧
 (∀(k:FloatKind) (n:Nat),dI id id' (.fl k n)=(.fl k n)) ∧
 (∀(k:FloatKind) (a b:Nat),dI id id' (.cx k a b)=(.cx k a b)) ∧
 (∀(l:List UInt8),dI id id' (.str l)=(.str l)) ∧
 (∀(x:Value),dI id id' (.lit x)=(.lit x)) ∧
 (dI id id' AV.al=AV.al) ∧
 (∀(sz0:Nat) (es0:List AV),dI id id' (.ro sz0 es0)=(.ro sz0 es0)) ∧
 (∀(x:AV),dI id id' (.au x)=(.au x)) ∧
 (∀(i o n:Nat),dI id id' (.sl i o n)=.sl (rn id id' i) o n) ∧
 (∀(i j f:Nat),dI id id' (.ptr i j f)=.ptr (rn id id' i) j f) ∧
 (∀(i f:Nat),dI id id' (.ab i f)=.ab (rn id id' i) f) ∧
 (∀(cs:List AV),dI id id' (.agg cs)=.agg (cs.map (cd id id'))) ∧
 (∀(cs:List AV),dI id id' (.aj cs)=.aj (cs.map (cN id id'))) ∧
 (∀(b:Bool) (x:AV),dI id id' (.gd b x)=.gd b (cN id id' x)) ∧
 (∀(f:Nat) (cs:List AV),dI id id' (.aK f cs)=.aK f (cs.map (cd id id'))):=
 ⟨rfl,fun _=>rfl,fun _ _=>rfl,fun _ _=>rfl,fun _ _ _=>rfl,fun _=>rfl,fun _=>rfl,rfl,fun _ _=>rfl,fun _=>rfl,fun _ _ _=>rfl,fun _ _ _=>rfl,fun _ _=>rfl,fun _=>rfl,fun _=>rfl,fun _ _=>rfl,fun _ _=>rfl⟩
theorem V4 (ids keep:List Nat) :
 (cr ids keep AV.undef=AV.undef) ∧
 (∀(b:Bool),cr ids keep (.bool b)=(.bool b)) ∧
 (∀(k:IntKind) (n:Int),cr ids keep (.int k n)=(.int k n)) ∧
 (∀(k:FloatKind) (n:Nat),cr ids keep (.fl k n)=(.fl k n)) ∧
 (∀(k:FloatKind) (a b:Nat),cr ids keep (.cx k a b)=(.cx k a b)) ∧
 (∀(l:List UInt8),cr ids keep (.str l)=(.str l)) ∧
 (∀(x:Value),cr ids keep (.lit x)=(.lit x)) ∧
 (cr ids keep AV.al=AV.al) ∧
 (∀(sz0:Nat) (es0:List AV),cr ids keep (.ro sz0 es0)=(.ro sz0 es0)) ∧
 (∀(x:AV),cr ids keep (.au x)=(.au x)) ∧
 (∀(i o n:Nat),cr ids keep (.sl i o n)=cu (memN i ids) (.sl i o n)) ∧
 (∀(i j f:Nat),cr ids keep (.ptr i j f)=cu (memN i ids) (.ptr i j f)) ∧
 (∀(i f:Nat),cr ids keep (.ab i f)=iL (memN i keep) (.ab i f) (cu (memN i ids) (.ab i f))) ∧
 (∀(cs:List AV),cr ids keep (.agg cs)=AV.undef) ∧
 (∀(cs:List AV),cr ids keep (.aj cs)=AV.undef) ∧
 (∀(b:Bool) (x:AV),cr ids keep (.gd b x)=AV.undef) ∧
 (∀(f:Nat) (cs:List AV),cr ids keep (.aK f cs)=AV.undef):=
 ⟨rfl,fun _=>rfl,fun _ _=>rfl,fun _ _=>rfl,fun _ _ _=>rfl,fun _=>rfl,fun _=>rfl,rfl,fun _ _=>rfl,fun _=>rfl,fun _ _ _=>iZ,fun _ _ _=>iZ,fun _ _=>(by rw[←iZ,←sd];rfl),fun _=>rfl,fun _=>rfl,fun _ _=>rfl,fun _ _=>rfl⟩
theorem V3 (ids keep:List Nat) :
 (cX ids keep AV.undef=AV.undef) ∧
 (∀(b:Bool),cX ids keep (.bool b)=(.bool b)) ∧
 (∀(k:IntKind) (n:Int),cX ids keep (.int k n)=(.int k n)) ∧
 (∀(k:FloatKind) (n:Nat),cX ids keep (.fl k n)=(.fl k n)) ∧
 (∀(k:FloatKind) (a b:Nat),cX ids keep (.cx k a b)=(.cx k a b)) ∧
 (∀(l:List UInt8),cX ids keep (.str l)=(.str l)) ∧
 (∀(x:Value),cX ids keep (.lit x)=(.lit x)) ∧
 (cX ids keep AV.al=AV.al) ∧
 (∀(sz0:Nat) (es0:List AV),cX ids keep (.ro sz0 es0)=(.ro sz0 es0)) ∧
 (∀(x:AV),cX ids keep (.au x)=(.au x)) ∧
 (∀(i o n:Nat),cX ids keep (.sl i o n)=cu (memN i ids) (.sl i o n)) ∧
 (∀(i j f:Nat),cX ids keep (.ptr i j f)=cu (memN i ids) (.ptr i j f)) ∧
 (∀(i f:Nat),cX ids keep (.ab i f)=iL (memN i keep) (.ab i f) (cu (memN i ids) (.ab i f))) ∧
 (∀(cs:List AV),cX ids keep (.agg cs)=.agg (cs.map (cr ids keep))) ∧
 (∀(cs:List AV),cX ids keep (.aj cs)=AV.undef) ∧
 (∀(b:Bool) (x:AV),cX ids keep (.gd b x)=AV.undef) ∧
 (∀(f:Nat) (cs:List AV),cX ids keep (.aK f cs)=.aK f (cs.map (cr ids keep))):=
 ⟨rfl,fun _=>rfl,fun _ _=>rfl,fun _ _=>rfl,fun _ _ _=>rfl,fun _=>rfl,fun _=>rfl,rfl,fun _ _=>rfl,fun _=>rfl,fun _ _ _=>iZ,fun _ _ _=>iZ,fun _ _=>(by rw[←iZ,←sd];rfl),fun _=>rfl,fun _=>rfl,fun _ _=>rfl,fun _ _=>rfl⟩
theorem VZ (ids keep:List Nat) :
 (kI ids keep AV.undef=AV.undef) ∧
 (∀(b:Bool),kI ids keep (.bool b)=(.bool b)) ∧
 (∀(k:IntKind) (n:Int),kI ids keep (.int k n)=(.int k n)) ∧
 (∀(k:FloatKind) (n:Nat),kI ids keep (.fl k n)=(.fl k n)) ∧
 (∀(k:FloatKind) (a b:Nat),kI ids keep (.cx k a b)=(.cx k a b)) ∧
 (∀(l:List UInt8),kI ids keep (.str l)=(.str l)) ∧
 (∀(x:Value),kI ids keep (.lit x)=(.lit x)) ∧
 (kI ids keep AV.al=AV.al) ∧
 (∀(sz0:Nat) (es0:List AV),kI ids keep (.ro sz0 es0)=(.ro sz0 es0)) ∧
 (∀(x:AV),kI ids keep (.au x)=(.au x)) ∧
 (∀(i o n:Nat),kI ids keep (.sl i o n)=cu (memN i ids) (.sl i o n)) ∧
 (∀(i j f:Nat),kI ids keep (.ptr i j f)=cu (memN i ids) (.ptr i j f)) ∧
 (∀(i f:Nat),kI ids keep (.ab i f)=iL (memN i keep) (.ab i f) (cu (memN i ids) (.ab i f))) ∧
 (∀(cs:List AV),kI ids keep (.agg cs)=.agg (cs.map (cr ids keep))) ∧
 (∀(cs:List AV),kI ids keep (.aj cs)=.aj (cs.map (cX ids keep))) ∧
 (∀(b:Bool) (x:AV),kI ids keep (.gd b x)=.gd b (cX ids keep x)) ∧
 (∀(f:Nat) (cs:List AV),kI ids keep (.aK f cs)=.aK f (cs.map (cr ids keep))):=
 ⟨rfl,fun _=>rfl,fun _ _=>rfl,fun _ _=>rfl,fun _ _ _=>rfl,fun _=>rfl,fun _=>rfl,rfl,fun _ _=>rfl,fun _=>rfl,fun _ _ _=>iZ,fun _ _ _=>iZ,fun _ _=>(by rw[←iZ,←sd];rfl),fun _=>rfl,fun _=>rfl,fun _ _=>rfl,fun _ _=>rfl⟩
theorem GA (h:HP) :
 (borrowC h AV.undef=AV.undef) ∧
 (∀(b:Bool),borrowC h (.bool b)=(.bool b)) ∧
 (∀(k:IntKind) (n:Int),borrowC h (.int k n)=(.int k n)) ∧
 (∀(k:FloatKind) (n:Nat),borrowC h (.fl k n)=(.fl k n)) ∧
 (∀(k:FloatKind) (a b:Nat),borrowC h (.cx k a b)=(.cx k a b)) ∧
 (∀(l:List UInt8),borrowC h (.str l)=(.str l)) ∧
 (∀(x:Value),borrowC h (.lit x)=(.lit x)) ∧
 (borrowC h AV.al=AV.al) ∧
 (∀(sz0:Nat) (es0:List AV),borrowC h (.ro sz0 es0)=(.ro sz0 es0)) ∧
 (∀(x:AV),borrowC h (.au x)=(.au x)) ∧
 (∀(i o n:Nat),borrowC h (.sl i o n)=borSl (hget h i) o n) ∧
 (∀(i j f:Nat),borrowC h (.ptr i j f)=AV.undef) ∧
 (∀(i f:Nat),borrowC h (.ab i f)=AV.undef) ∧
 (∀(cs:List AV),borrowC h (.agg cs)=AV.undef) ∧
 (∀(cs:List AV),borrowC h (.aj cs)=AV.undef) ∧
 (∀(b:Bool) (x:AV),borrowC h (.gd b x)=AV.undef) ∧
 (∀(f:Nat) (cs:List AV),borrowC h (.aK f cs)=AV.undef):=
 ⟨rfl,fun _=>rfl,fun _ _=>rfl,fun _ _=>rfl,fun _ _ _=>rfl,fun _=>rfl,fun _=>rfl,rfl,fun _ _=>rfl,fun _=>rfl,fun _ _ _=>(by simp only[borrowC,borSl];split<;>simp_all),fun _ _ _=>rfl,fun _ _=>rfl,fun _=>rfl,fun _=>rfl,fun _ _=>rfl,fun _ _=>rfl⟩
theorem GB (h:HP) :
 (borrow h AV.undef=AV.undef) ∧
 (∀(b:Bool),borrow h (.bool b)=(.bool b)) ∧
 (∀(k:IntKind) (n:Int),borrow h (.int k n)=(.int k n)) ∧
 (∀(k:FloatKind) (n:Nat),borrow h (.fl k n)=(.fl k n)) ∧
 (∀(k:FloatKind) (a b:Nat),borrow h (.cx k a b)=(.cx k a b)) ∧
 (∀(l:List UInt8),borrow h (.str l)=(.str l)) ∧
 (∀(x:Value),borrow h (.lit x)=(.lit x)) ∧
 (borrow h AV.al=AV.al) ∧
 (∀(sz0:Nat) (es0:List AV),borrow h (.ro sz0 es0)=(.ro sz0 es0)) ∧
 (∀(x:AV),borrow h (.au x)=(.au x)) ∧
 (∀(i o n:Nat),borrow h (.sl i o n)=borSl (hget h i) o n) ∧
 (∀(i j f:Nat),borrow h (.ptr i j f)=AV.undef) ∧
 (∀(i f:Nat),borrow h (.ab i f)=AV.undef) ∧
 (∀(cs:List AV),borrow h (.agg cs)=.agg (cs.map (borrowC h))) ∧
 (∀(cs:List AV),borrow h (.aj cs)=AV.undef) ∧
 (∀(b:Bool) (x:AV),borrow h (.gd b x)=AV.undef) ∧
 (∀(f:Nat) (cs:List AV),borrow h (.aK f cs)=AV.undef):=
 ⟨rfl,fun _=>rfl,fun _ _=>rfl,fun _ _=>rfl,fun _ _ _=>rfl,fun _=>rfl,fun _=>rfl,rfl,fun _ _=>rfl,fun _=>rfl,fun _ _ _=>(by simp only[borrow,borrowC,borSl];split<;>simp_all),fun _ _ _=>rfl,fun _ _=>rfl,fun _=>rfl,fun _=>rfl,fun _ _=>rfl,fun _ _=>rfl⟩
theorem ET (h0 h:HP) :
 (bcell h0 h AV.undef=AV.undef) ∧
 (∀(b:Bool),bcell h0 h (.bool b)=(.bool b)) ∧
 (∀(k:IntKind) (n:Int),bcell h0 h (.int k n)=(.int k n)) ∧
 (∀(k:FloatKind) (n:Nat),bcell h0 h (.fl k n)=(.fl k n)) ∧
 (∀(k:FloatKind) (a b:Nat),bcell h0 h (.cx k a b)=(.cx k a b)) ∧
 (∀(l:List UInt8),bcell h0 h (.str l)=(.str l)) ∧
 (∀(x:Value),bcell h0 h (.lit x)=(.lit x)) ∧
 (bcell h0 h AV.al=AV.al) ∧
 (∀(sz0:Nat) (es0:List AV),bcell h0 h (.ro sz0 es0)=(.ro sz0 es0)) ∧
 (∀(x:AV),bcell h0 h (.au x)=(.au x)) ∧
 (∀(i o n:Nat),bcell h0 h (.sl i o n)=keepO (hget h0 i) AV.undef (borSl (hget h i) o n)) ∧
 (∀(i j f:Nat),bcell h0 h (.ptr i j f)=AV.undef) ∧
 (∀(i f:Nat),bcell h0 h (.ab i f)=AV.undef) ∧
 (∀(cs:List AV),bcell h0 h (.agg cs)=AV.undef) ∧
 (∀(cs:List AV),bcell h0 h (.aj cs)=AV.undef) ∧
 (∀(b:Bool) (x:AV),bcell h0 h (.gd b x)=AV.undef) ∧
 (∀(f:Nat) (cs:List AV),bcell h0 h (.aK f cs)=AV.undef):=
 ⟨rfl,fun _=>rfl,fun _ _=>rfl,fun _ _=>rfl,fun _ _ _=>rfl,fun _=>rfl,fun _=>rfl,rfl,fun _ _=>rfl,fun _=>rfl,fun _ _ _=>(by simp only[bcell,borrowC,borSl,keepO];split<;>(try split)<;>simp_all),fun _ _ _=>rfl,fun _ _=>rfl,fun _=>rfl,fun _=>rfl,fun _ _=>rfl,fun _ _=>rfl⟩
theorem Gt (h0 h:HP) :
 (borC h0 h AV.undef=AV.undef) ∧
 (∀(b:Bool),borC h0 h (.bool b)=(.bool b)) ∧
 (∀(k:IntKind) (n:Int),borC h0 h (.int k n)=(.int k n)) ∧
 (∀(k:FloatKind) (n:Nat),borC h0 h (.fl k n)=(.fl k n)) ∧
 (∀(k:FloatKind) (a b:Nat),borC h0 h (.cx k a b)=(.cx k a b)) ∧
 (∀(l:List UInt8),borC h0 h (.str l)=(.str l)) ∧
 (∀(x:Value),borC h0 h (.lit x)=(.lit x)) ∧
 (borC h0 h AV.al=AV.al) ∧
 (∀(sz0:Nat) (es0:List AV),borC h0 h (.ro sz0 es0)=(.ro sz0 es0)) ∧
 (∀(x:AV),borC h0 h (.au x)=(.au x)) ∧
 (∀(i o n:Nat),borC h0 h (.sl i o n)=keepO (hget h0 i) (.sl i o n) (borSl (hget h i) o n)) ∧
 (∀(i j f:Nat),borC h0 h (.ptr i j f)=keepO (hget h0 i) (.ptr i j f) AV.undef) ∧
 (∀(i f:Nat),borC h0 h (.ab i f)=keepO (hget h0 i) (.ab i f) (borV h0 h (hget h i) f)) ∧
 (∀(cs:List AV),borC h0 h (.agg cs)=AV.undef) ∧
 (∀(cs:List AV),borC h0 h (.aj cs)=AV.undef) ∧
 (∀(b:Bool) (x:AV),borC h0 h (.gd b x)=AV.undef) ∧
 (∀(f:Nat) (cs:List AV),borC h0 h (.aK f cs)=AV.undef):=
 ⟨rfl,fun _=>rfl,fun _ _=>rfl,fun _ _=>rfl,fun _ _ _=>rfl,fun _=>rfl,fun _=>rfl,rfl,fun _ _=>rfl,fun _=>rfl,fun _ _ _=>(by simp only[borC,borrowC,borSl,keepO];split<;>(try split)<;>simp_all),fun _ _ _=>(by simp only[borC,keepO];rfl),fun _ _=>(by simp only[borC,borV,keepO];rfl),fun _=>rfl,fun _=>rfl,fun _ _=>rfl,fun _ _=>rfl⟩
theorem Gy (h0 h:HP) :
 (bor h0 h AV.undef=AV.undef) ∧
 (∀(b:Bool),bor h0 h (.bool b)=(.bool b)) ∧
 (∀(k:IntKind) (n:Int),bor h0 h (.int k n)=(.int k n)) ∧
 (∀(k:FloatKind) (n:Nat),bor h0 h (.fl k n)=(.fl k n)) ∧
 (∀(k:FloatKind) (a b:Nat),bor h0 h (.cx k a b)=(.cx k a b)) ∧
 (∀(l:List UInt8),bor h0 h (.str l)=(.str l)) ∧
 (∀(x:Value),bor h0 h (.lit x)=(.lit x)) ∧
 (bor h0 h AV.al=AV.al) ∧
 (∀(sz0:Nat) (es0:List AV),bor h0 h (.ro sz0 es0)=(.ro sz0 es0)) ∧
 (∀(x:AV),bor h0 h (.au x)=(.au x)) ∧
 (∀(i o n:Nat),bor h0 h (.sl i o n)=keepO (hget h0 i) (.sl i o n) (borSl (hget h i) o n)) ∧
 (∀(i j f:Nat),bor h0 h (.ptr i j f)=keepO (hget h0 i) (.ptr i j f) AV.undef) ∧
 (∀(i f:Nat),bor h0 h (.ab i f)=keepO (hget h0 i) (.ab i f) (borV h0 h (hget h i) f)) ∧
 (∀(cs:List AV),bor h0 h (.agg cs)=.agg (cs.map (borC h0 h))) ∧
 (∀(cs:List AV),bor h0 h (.aj cs)=AV.undef) ∧
 (∀(b:Bool) (x:AV),bor h0 h (.gd b x)=AV.undef) ∧
 (∀(f:Nat) (cs:List AV),bor h0 h (.aK f cs)=AV.undef):=
 ⟨rfl,fun _=>rfl,fun _ _=>rfl,fun _ _=>rfl,fun _ _ _=>rfl,fun _=>rfl,fun _=>rfl,rfl,fun _ _=>rfl,fun _=>rfl,fun _ _ _=>(by simp only[bor,borC,borrowC,borSl,keepO];split<;>(try split)<;>simp_all),fun _ _ _=>(by simp only[bor,borC,keepO];rfl),fun _ _=>(by simp only[bor,borC,borV,keepO];rfl),fun _=>rfl,fun _=>rfl,fun _ _=>rfl,fun _ _=>rfl⟩
theorem aak :
 (noRefC  AV.undef=true) ∧
 (∀(b:Bool),noRefC  (.bool b)=true) ∧
 (∀(k:IntKind) (n:Int),noRefC  (.int k n)=true) ∧
 (∀(k:FloatKind) (n:Nat),noRefC  (.fl k n)=true) ∧
 (∀(k:FloatKind) (a b:Nat),noRefC  (.cx k a b)=true) ∧
 (∀(l:List UInt8),noRefC  (.str l)=true) ∧
 (∀(x:Value),noRefC  (.lit x)=true) ∧
 (noRefC  AV.al=true) ∧
 (∀(sz0:Nat) (es0:List AV),noRefC  (.ro sz0 es0)=true) ∧
 (∀(x:AV),noRefC  (.au x)=true) ∧
 (∀(i o n:Nat),noRefC  (.sl i o n)=false) ∧
 (∀(i j f:Nat),noRefC  (.ptr i j f)=false) ∧
 (∀(i f:Nat),noRefC  (.ab i f)=false) ∧
 (∀(cs:List AV),noRefC  (.agg cs)=false) ∧
 (∀(cs:List AV),noRefC  (.aj cs)=false) ∧
 (∀(b:Bool) (x:AV),noRefC  (.gd b x)=false) ∧
 (∀(f:Nat) (cs:List AV),noRefC  (.aK f cs)=false):=
 ⟨rfl,fun _=>rfl,fun _ _=>rfl,fun _ _=>rfl,fun _ _ _=>rfl,fun _=>rfl,fun _=>rfl,rfl,fun _ _=>rfl,fun _=>rfl,fun _ _ _=>rfl,fun _ _ _=>rfl,fun _ _=>rfl,fun _=>rfl,fun _=>rfl,fun _ _=>rfl,fun _ _=>rfl⟩
theorem KW :
 (flC  AV.undef=true) ∧
 (∀(b:Bool),flC  (.bool b)=true) ∧
 (∀(k:IntKind) (n:Int),flC  (.int k n)=true) ∧
 (∀(k:FloatKind) (n:Nat),flC  (.fl k n)=true) ∧
 (∀(k:FloatKind) (a b:Nat),flC  (.cx k a b)=true) ∧
 (∀(l:List UInt8),flC  (.str l)=true) ∧
 (∀(x:Value),flC  (.lit x)=true) ∧
 (flC  AV.al=true) ∧
 (∀(sz0:Nat) (es0:List AV),flC  (.ro sz0 es0)=false) ∧
 (∀(x:AV),flC  (.au x)=false) ∧
 (∀(i o n:Nat),flC  (.sl i o n)=false) ∧
 (∀(i j f:Nat),flC  (.ptr i j f)=false) ∧
 (∀(i f:Nat),flC  (.ab i f)=false) ∧
 (∀(cs:List AV),flC  (.agg cs)=false) ∧
 (∀(cs:List AV),flC  (.aj cs)=false) ∧
 (∀(b:Bool) (x:AV),flC  (.gd b x)=false) ∧
 (∀(f:Nat) (cs:List AV),flC  (.aK f cs)=false):=
 ⟨rfl,fun _=>rfl,fun _ _=>rfl,fun _ _=>rfl,fun _ _ _=>rfl,fun _=>rfl,fun _=>rfl,rfl,fun _ _=>rfl,fun _=>rfl,fun _ _ _=>rfl,fun _ _ _=>rfl,fun _ _=>rfl,fun _=>rfl,fun _=>rfl,fun _ _=>rfl,fun _ _=>rfl⟩
theorem Uc :
 (isCell  AV.undef=false) ∧
 (∀(b:Bool),isCell  (.bool b)=true) ∧
 (∀(k:IntKind) (n:Int),isCell  (.int k n)=true) ∧
 (∀(k:FloatKind) (n:Nat),isCell  (.fl k n)=true) ∧
 (∀(k:FloatKind) (a b:Nat),isCell  (.cx k a b)=true) ∧
 (∀(l:List UInt8),isCell  (.str l)=true) ∧
 (∀(x:Value),isCell  (.lit x)=x.oneCell') ∧
 (isCell  AV.al=true) ∧
 (∀(sz0:Nat) (es0:List AV),isCell  (.ro sz0 es0)=true) ∧
 (∀(x:AV),isCell  (.au x)=true) ∧
 (∀(i o n:Nat),isCell  (.sl i o n)=true) ∧
 (∀(i j f:Nat),isCell  (.ptr i j f)=true) ∧
 (∀(i f:Nat),isCell  (.ab i f)=true) ∧
 (∀(cs:List AV),isCell  (.agg cs)=false) ∧
 (∀(cs:List AV),isCell  (.aj cs)=false) ∧
 (∀(b:Bool) (x:AV),isCell  (.gd b x)=false) ∧
 (∀(f:Nat) (cs:List AV),isCell  (.aK f cs)=false):=
 ⟨rfl,fun _=>rfl,fun _ _=>rfl,fun _ _=>rfl,fun _ _ _=>rfl,fun _=>rfl,fun _=>rfl,rfl,fun _ _=>rfl,fun _=>rfl,fun _ _ _=>rfl,fun _ _ _=>rfl,fun _ _=>rfl,fun _=>rfl,fun _=>rfl,fun _ _=>rfl,fun _ _=>rfl⟩
theorem aam :
 (bP  AV.undef=true) ∧
 (∀(b:Bool),bP  (.bool b)=true) ∧
 (∀(k:IntKind) (n:Int),bP  (.int k n)=true) ∧
 (∀(k:FloatKind) (n:Nat),bP  (.fl k n)=true) ∧
 (∀(k:FloatKind) (a b:Nat),bP  (.cx k a b)=true) ∧
 (∀(l:List UInt8),bP  (.str l)=true) ∧
 (∀(x:Value),bP  (.lit x)=true) ∧
 (bP  AV.al=true) ∧
 (∀(sz0:Nat) (es0:List AV),bP  (.ro sz0 es0)=true) ∧
 (∀(x:AV),bP  (.au x)=true) ∧
 (∀(i o n:Nat),bP  (.sl i o n)=false) ∧
 (∀(i j f:Nat),bP  (.ptr i j f)=false) ∧
 (∀(i f:Nat),bP  (.ab i f)=false) ∧
 (∀(cs:List AV),bP  (.agg cs)=cs.all noRefC) ∧
 (∀(cs:List AV),bP  (.aj cs)=false) ∧
 (∀(b:Bool) (x:AV),bP  (.gd b x)=false) ∧
 (∀(f:Nat) (cs:List AV),bP  (.aK f cs)=false):=
 ⟨rfl,fun _=>rfl,fun _ _=>rfl,fun _ _=>rfl,fun _ _ _=>rfl,fun _=>rfl,fun _=>rfl,rfl,fun _ _=>rfl,fun _=>rfl,fun _ _ _=>rfl,fun _ _ _=>rfl,fun _ _=>rfl,fun _=>rfl,fun _=>rfl,fun _ _=>rfl,fun _ _=>rfl⟩
theorem aal :
 (dM  AV.undef=true) ∧
 (∀(b:Bool),dM  (.bool b)=true) ∧
 (∀(k:IntKind) (n:Int),dM  (.int k n)=true) ∧
 (∀(k:FloatKind) (n:Nat),dM  (.fl k n)=true) ∧
 (∀(k:FloatKind) (a b:Nat),dM  (.cx k a b)=true) ∧
 (∀(l:List UInt8),dM  (.str l)=true) ∧
 (∀(x:Value),dM  (.lit x)=true) ∧
 (dM  AV.al=true) ∧
 (∀(sz0:Nat) (es0:List AV),dM  (.ro sz0 es0)=true) ∧
 (∀(x:AV),dM  (.au x)=true) ∧
 (∀(i o n:Nat),dM  (.sl i o n)=false) ∧
 (∀(i j f:Nat),dM  (.ptr i j f)=false) ∧
 (∀(i f:Nat),dM  (.ab i f)=false) ∧
 (∀(cs:List AV),dM  (.agg cs)=cs.all noRefC) ∧
 (∀(cs:List AV),dM  (.aj cs)=cs.all bP) ∧
 (∀(b:Bool) (x:AV),dM  (.gd b x)=false) ∧
 (∀(f:Nat) (cs:List AV),dM  (.aK f cs)=false):=
 ⟨rfl,fun _=>rfl,fun _ _=>rfl,fun _ _=>rfl,fun _ _ _=>rfl,fun _=>rfl,fun _=>rfl,rfl,fun _ _=>rfl,fun _=>rfl,fun _ _ _=>rfl,fun _ _ _=>rfl,fun _ _=>rfl,fun _=>rfl,fun _=>rfl,fun _ _=>rfl,fun _ _=>rfl⟩
theorem KU :
 (flA  AV.undef=true) ∧
 (∀(b:Bool),flA  (.bool b)=true) ∧
 (∀(k:IntKind) (n:Int),flA  (.int k n)=true) ∧
 (∀(k:FloatKind) (n:Nat),flA  (.fl k n)=true) ∧
 (∀(k:FloatKind) (a b:Nat),flA  (.cx k a b)=true) ∧
 (∀(l:List UInt8),flA  (.str l)=true) ∧
 (∀(x:Value),flA  (.lit x)=true) ∧
 (flA  AV.al=true) ∧
 (∀(sz0:Nat) (es0:List AV),flA  (.ro sz0 es0)=false) ∧
 (∀(x:AV),flA  (.au x)=false) ∧
 (∀(i o n:Nat),flA  (.sl i o n)=false) ∧
 (∀(i j f:Nat),flA  (.ptr i j f)=false) ∧
 (∀(i f:Nat),flA  (.ab i f)=false) ∧
 (∀(cs:List AV),flA  (.agg cs)=cs.all flC) ∧
 (∀(cs:List AV),flA  (.aj cs)=false) ∧
 (∀(b:Bool) (x:AV),flA  (.gd b x)=false) ∧
 (∀(f:Nat) (cs:List AV),flA  (.aK f cs)=false):=
 ⟨rfl,fun _=>rfl,fun _ _=>rfl,fun _ _=>rfl,fun _ _ _=>rfl,fun _=>rfl,fun _=>rfl,rfl,fun _ _=>rfl,fun _=>rfl,fun _ _ _=>rfl,fun _ _ _=>rfl,fun _ _=>rfl,fun _=>rfl,fun _=>rfl,fun _ _=>rfl,fun _ _=>rfl⟩
theorem K1 :
 (di  AV.undef=true) ∧
 (∀(b:Bool),di  (.bool b)=true) ∧
 (∀(k:IntKind) (n:Int),di  (.int k n)=true) ∧
 (∀(k:FloatKind) (n:Nat),di  (.fl k n)=true) ∧
 (∀(k:FloatKind) (a b:Nat),di  (.cx k a b)=true) ∧
 (∀(l:List UInt8),di  (.str l)=true) ∧
 (∀(x:Value),di  (.lit x)=true) ∧
 (di  AV.al=true) ∧
 (∀(sz0:Nat) (es0:List AV),di  (.ro sz0 es0)=false) ∧
 (∀(x:AV),di  (.au x)=false) ∧
 (∀(i o n:Nat),di  (.sl i o n)=false) ∧
 (∀(i j f:Nat),di  (.ptr i j f)=false) ∧
 (∀(i f:Nat),di  (.ab i f)=false) ∧
 (∀(cs:List AV),di  (.agg cs)=cs.all flC) ∧
 (∀(cs:List AV),di  (.aj cs)=cs.all flA) ∧
 (∀(b:Bool) (x:AV),di  (.gd b x)=false) ∧
 (∀(f:Nat) (cs:List AV),di  (.aK f cs)=false):=
 ⟨rfl,fun _=>rfl,fun _ _=>rfl,fun _ _=>rfl,fun _ _ _=>rfl,fun _=>rfl,fun _=>rfl,rfl,fun _ _=>rfl,fun _=>rfl,fun _ _ _=>rfl,fun _ _ _=>rfl,fun _ _=>rfl,fun _=>rfl,fun _=>rfl,fun _ _=>rfl,fun _ _=>rfl⟩
theorem Lk (h:HP) :
 (cJ h AV.undef=true) ∧
 (∀(b:Bool),cJ h (.bool b)=true) ∧
 (∀(k:IntKind) (n:Int),cJ h (.int k n)=true) ∧
 (∀(k:FloatKind) (n:Nat),cJ h (.fl k n)=true) ∧
 (∀(k:FloatKind) (a b:Nat),cJ h (.cx k a b)=true) ∧
 (∀(l:List UInt8),cJ h (.str l)=true) ∧
 (∀(x:Value),cJ h (.lit x)=true) ∧
 (cJ h AV.al=true) ∧
 (∀(sz0:Nat) (es0:List AV),cJ h (.ro sz0 es0)=false) ∧
 (∀(x:AV),cJ h (.au x)=false) ∧
 (∀(i o n:Nat),cJ h (.sl i o n)=(hget h i).isSome) ∧
 (∀(i j f:Nat),cJ h (.ptr i j f)=(hget h i).isSome) ∧
 (∀(i f:Nat),cJ h (.ab i f)=(hget h i).isSome) ∧
 (∀(cs:List AV),cJ h (.agg cs)=false) ∧
 (∀(cs:List AV),cJ h (.aj cs)=false) ∧
 (∀(b:Bool) (x:AV),cJ h (.gd b x)=false) ∧
 (∀(f:Nat) (cs:List AV),cJ h (.aK f cs)=false):=
 ⟨rfl,fun _=>rfl,fun _ _=>rfl,fun _ _=>rfl,fun _ _ _=>rfl,fun _=>rfl,fun _=>rfl,rfl,fun _ _=>rfl,fun _=>rfl,fun _ _ _=>rfl,fun _ _ _=>rfl,fun _ _=>rfl,fun _=>rfl,fun _=>rfl,fun _ _=>rfl,fun _ _=>rfl⟩
theorem Lj (h:HP) :
 (du h AV.undef=true) ∧
 (∀(b:Bool),du h (.bool b)=true) ∧
 (∀(k:IntKind) (n:Int),du h (.int k n)=true) ∧
 (∀(k:FloatKind) (n:Nat),du h (.fl k n)=true) ∧
 (∀(k:FloatKind) (a b:Nat),du h (.cx k a b)=true) ∧
 (∀(l:List UInt8),du h (.str l)=true) ∧
 (∀(x:Value),du h (.lit x)=true) ∧
 (du h AV.al=true) ∧
 (∀(sz0:Nat) (es0:List AV),du h (.ro sz0 es0)=false) ∧
 (∀(x:AV),du h (.au x)=false) ∧
 (∀(i o n:Nat),du h (.sl i o n)=(hget h i).isSome) ∧
 (∀(i j f:Nat),du h (.ptr i j f)=(hget h i).isSome) ∧
 (∀(i f:Nat),du h (.ab i f)=(hget h i).isSome) ∧
 (∀(cs:List AV),du h (.agg cs)=cs.all (cJ h)) ∧
 (∀(cs:List AV),du h (.aj cs)=false) ∧
 (∀(b:Bool) (x:AV),du h (.gd b x)=false) ∧
 (∀(f:Nat) (cs:List AV),du h (.aK f cs)=false):=
 ⟨rfl,fun _=>rfl,fun _ _=>rfl,fun _ _=>rfl,fun _ _ _=>rfl,fun _=>rfl,fun _=>rfl,rfl,fun _ _=>rfl,fun _=>rfl,fun _ _ _=>rfl,fun _ _ _=>rfl,fun _ _=>rfl,fun _=>rfl,fun _=>rfl,fun _ _=>rfl,fun _ _=>rfl⟩
theorem KY (h:HP) :
 (dX h AV.undef=true) ∧
 (∀(b:Bool),dX h (.bool b)=true) ∧
 (∀(k:IntKind) (n:Int),dX h (.int k n)=true) ∧
 (∀(k:FloatKind) (n:Nat),dX h (.fl k n)=true) ∧
 (∀(k:FloatKind) (a b:Nat),dX h (.cx k a b)=true) ∧
 (∀(l:List UInt8),dX h (.str l)=true) ∧
 (∀(x:Value),dX h (.lit x)=true) ∧
 (dX h AV.al=true) ∧
 (∀(sz0:Nat) (es0:List AV),dX h (.ro sz0 es0)=false) ∧
 (∀(x:AV),dX h (.au x)=false) ∧
 (∀(i o n:Nat),dX h (.sl i o n)=(hget h i).isSome) ∧
 (∀(i j f:Nat),dX h (.ptr i j f)=(hget h i).isSome) ∧
 (∀(i f:Nat),dX h (.ab i f)=(hget h i).isSome) ∧
 (∀(cs:List AV),dX h (.agg cs)=cs.all (cJ h)) ∧
 (∀(cs:List AV),dX h (.aj cs)=cs.all (du h)) ∧
 (∀(b:Bool) (x:AV),dX h (.gd b x)=false) ∧
 (∀(f:Nat) (cs:List AV),dX h (.aK f cs)=false):=
 ⟨rfl,fun _=>rfl,fun _ _=>rfl,fun _ _=>rfl,fun _ _ _=>rfl,fun _=>rfl,fun _=>rfl,rfl,fun _ _=>rfl,fun _=>rfl,fun _ _ _=>rfl,fun _ _ _=>rfl,fun _ _=>rfl,fun _=>rfl,fun _=>rfl,fun _ _=>rfl,fun _ _=>rfl⟩
theorem RG (h:HP) :
 (cK h AV.undef=true) ∧
 (∀(b:Bool),cK h (.bool b)=true) ∧
 (∀(k:IntKind) (n:Int),cK h (.int k n)=true) ∧
 (∀(k:FloatKind) (n:Nat),cK h (.fl k n)=true) ∧
 (∀(k:FloatKind) (a b:Nat),cK h (.cx k a b)=true) ∧
 (∀(l:List UInt8),cK h (.str l)=true) ∧
 (∀(x:Value),cK h (.lit x)=true) ∧
 (cK h AV.al=true) ∧
 (∀(sz0:Nat) (es0:List AV),cK h (.ro sz0 es0)=true) ∧
 (∀(x:AV),cK h (.au x)=true) ∧
 (∀(i o n:Nat),cK h (.sl i o n)=(hget h i).isSome) ∧
 (∀(i j f:Nat),cK h (.ptr i j f)=(hget h i).isSome) ∧
 (∀(i f:Nat),cK h (.ab i f)=(hget h i).isSome) ∧
 (∀(cs:List AV),cK h (.agg cs)=false) ∧
 (∀(cs:List AV),cK h (.aj cs)=false) ∧
 (∀(b:Bool) (x:AV),cK h (.gd b x)=false) ∧
 (∀(f:Nat) (cs:List AV),cK h (.aK f cs)=false):=
 ⟨rfl,fun _=>rfl,fun _ _=>rfl,fun _ _=>rfl,fun _ _ _=>rfl,fun _=>rfl,fun _=>rfl,rfl,fun _ _=>rfl,fun _=>rfl,fun _ _ _=>rfl,fun _ _ _=>rfl,fun _ _=>rfl,fun _=>rfl,fun _=>rfl,fun _ _=>rfl,fun _ _=>rfl⟩
theorem RF (h:HP) :
 (dw h AV.undef=true) ∧
 (∀(b:Bool),dw h (.bool b)=true) ∧
 (∀(k:IntKind) (n:Int),dw h (.int k n)=true) ∧
 (∀(k:FloatKind) (n:Nat),dw h (.fl k n)=true) ∧
 (∀(k:FloatKind) (a b:Nat),dw h (.cx k a b)=true) ∧
 (∀(l:List UInt8),dw h (.str l)=true) ∧
 (∀(x:Value),dw h (.lit x)=true) ∧
 (dw h AV.al=true) ∧
 (∀(sz0:Nat) (es0:List AV),dw h (.ro sz0 es0)=true) ∧
 (∀(x:AV),dw h (.au x)=true) ∧
 (∀(i o n:Nat),dw h (.sl i o n)=(hget h i).isSome) ∧
 (∀(i j f:Nat),dw h (.ptr i j f)=(hget h i).isSome) ∧
 (∀(i f:Nat),dw h (.ab i f)=(hget h i).isSome) ∧
 (∀(cs:List AV),dw h (.agg cs)=cs.all (cK h)) ∧
 (∀(cs:List AV),dw h (.aj cs)=false) ∧
 (∀(b:Bool) (x:AV),dw h (.gd b x)=false) ∧
 (∀(f:Nat) (cs:List AV),dw h (.aK f cs)=false):=
 ⟨rfl,fun _=>rfl,fun _ _=>rfl,fun _ _=>rfl,fun _ _ _=>rfl,fun _=>rfl,fun _=>rfl,rfl,fun _ _=>rfl,fun _=>rfl,fun _ _ _=>rfl,fun _ _ _=>rfl,fun _ _=>rfl,fun _=>rfl,fun _=>rfl,fun _ _=>rfl,fun _ _=>rfl⟩
theorem RI (h:HP) :
 (dE h AV.undef=true) ∧
 (∀(b:Bool),dE h (.bool b)=true) ∧
 (∀(k:IntKind) (n:Int),dE h (.int k n)=true) ∧
 (∀(k:FloatKind) (n:Nat),dE h (.fl k n)=true) ∧
 (∀(k:FloatKind) (a b:Nat),dE h (.cx k a b)=true) ∧
 (∀(l:List UInt8),dE h (.str l)=true) ∧
 (∀(x:Value),dE h (.lit x)=true) ∧
 (dE h AV.al=true) ∧
 (∀(sz0:Nat) (es0:List AV),dE h (.ro sz0 es0)=true) ∧
 (∀(x:AV),dE h (.au x)=true) ∧
 (∀(i o n:Nat),dE h (.sl i o n)=(hget h i).isSome) ∧
 (∀(i j f:Nat),dE h (.ptr i j f)=(hget h i).isSome) ∧
 (∀(i f:Nat),dE h (.ab i f)=(hget h i).isSome) ∧
 (∀(cs:List AV),dE h (.agg cs)=cs.all (cK h)) ∧
 (∀(cs:List AV),dE h (.aj cs)=cs.all (dw h)) ∧
 (∀(b:Bool) (x:AV),dE h (.gd b x)=false) ∧
 (∀(f:Nat) (cs:List AV),dE h (.aK f cs)=false):=
 ⟨rfl,fun _=>rfl,fun _ _=>rfl,fun _ _=>rfl,fun _ _ _=>rfl,fun _=>rfl,fun _=>rfl,rfl,fun _ _=>rfl,fun _=>rfl,fun _ _ _=>rfl,fun _ _ _=>rfl,fun _ _=>rfl,fun _=>rfl,fun _=>rfl,fun _ _=>rfl,fun _ _=>rfl⟩
theorem arh :
 (stripV  AV.undef=AV.undef) ∧
 (∀(b:Bool),stripV  (.bool b)=(.bool b)) ∧
 (∀(k:IntKind) (n:Int),stripV  (.int k n)=(.int k n)) ∧
 (∀(k:FloatKind) (n:Nat),stripV  (.fl k n)=(.fl k n)) ∧
 (∀(k:FloatKind) (a b:Nat),stripV  (.cx k a b)=(.cx k a b)) ∧
 (∀(l:List UInt8),stripV  (.str l)=(.str l)) ∧
 (∀(x:Value),stripV  (.lit x)=(.lit x)) ∧
 (stripV  AV.al=AV.al) ∧
 (∀(sz0:Nat) (es0:List AV),stripV  (.ro sz0 es0)=(.ro sz0 es0)) ∧
 (∀(x:AV),stripV  (.au x)=(.au x)) ∧
 (∀(i o n:Nat),stripV  (.sl i o n)=(.sl i o n)) ∧
 (∀(i j f:Nat),stripV  (.ptr i j f)=(.ptr i j f)) ∧
 (∀(i f:Nat),stripV  (.ab i f)=(.ab i f)) ∧
 (∀(cs:List AV),stripV  (.agg cs)=(.agg cs)) ∧
 (∀(cs:List AV),stripV  (.aj cs)=(.aj cs)) ∧
 (∀(b:Bool) (x:AV),stripV  (.gd b x)=x) ∧
 (∀(f:Nat) (cs:List AV),stripV  (.aK f cs)=.aK f cs):=
 ⟨rfl,fun _=>rfl,fun _ _=>rfl,fun _ _=>rfl,fun _ _ _=>rfl,fun _=>rfl,fun _=>rfl,rfl,fun _ _=>rfl,fun _=>rfl,fun _ _ _=>rfl,fun _ _ _=>rfl,fun _ _=>rfl,fun _=>rfl,fun _=>rfl,fun _ _=>rfl,fun _ _=>rfl⟩
theorem arf (γ:Bool) :
 (az γ AV.undef=True) ∧
 (∀(b:Bool),az γ (.bool b)=True) ∧
 (∀(k:IntKind) (n:Int),az γ (.int k n)=True) ∧
 (∀(k:FloatKind) (n:Nat),az γ (.fl k n)=True) ∧
 (∀(k:FloatKind) (a b:Nat),az γ (.cx k a b)=True) ∧
 (∀(l:List UInt8),az γ (.str l)=True) ∧
 (∀(x:Value),az γ (.lit x)=True) ∧
 (az γ AV.al=True) ∧
 (∀(sz0:Nat) (es0:List AV),az γ (.ro sz0 es0)=True) ∧
 (∀(x:AV),az γ (.au x)=True) ∧
 (∀(i o n:Nat),az γ (.sl i o n)=True) ∧
 (∀(i j f:Nat),az γ (.ptr i j f)=True) ∧
 (∀(i f:Nat),az γ (.ab i f)=True) ∧
 (∀(cs:List AV),az γ (.agg cs)=True) ∧
 (∀(cs:List AV),az γ (.aj cs)=True) ∧
 (∀(b:Bool) (x:AV),az γ (.gd b x)=(γ=true→b=true)) ∧
 (∀(f:Nat) (cs:List AV),az γ (.aK f cs)=True):=
 ⟨rfl,fun _=>rfl,fun _ _=>rfl,fun _ _=>rfl,fun _ _ _=>rfl,fun _=>rfl,fun _=>rfl,rfl,fun _ _=>rfl,fun _=>rfl,fun _ _ _=>rfl,fun _ _ _=>rfl,fun _ _=>rfl,fun _=>rfl,fun _=>rfl,fun _ _=>rfl,fun _ _=>rfl⟩
theorem Kk (st:St):(∀k,ev st (.t k)=(sget st.s k).getD .undef)∧(∀v,ev st (.c v)=v):=⟨fun _=>rfl,fun _=>rfl⟩
theorem abY (st:St) (v:AV):(∀d,put st (some d) v=⟨(d,v)::st.s,st.h⟩)∧put st none v=st:=⟨fun _=>rfl,rfl⟩
theorem Mn (w:Bool):(∀β,grd (some (.bool β)) w=some (β==w))∧(∀b β,grd (some (.gd b (.bool β))) w=some (b&&(β==w)))∧grd (some (.gd false .undef)) w=some false:=⟨fun _=>rfl,fun b _=>by cases b<;>rfl,rfl⟩
theorem aah (st:St) (d:Nat) (W:aI):bZ st d W=⟨killS d st.s,bX (eZ d st.h) d W⟩:=(rfl)
theorem Wr (id:Nat):(∀sz es,jF id (.arr sz es)=.arr sz es)∧(∀cs,jF id (.var cs)=.var (cs.map (killC id)))∧(∀kd l,jF id (.mp kd l)=.mp kd l):=⟨fun _ _=>rfl,fun _=>rfl,fun _ _=>rfl⟩
theorem L5 (id sz:Nat) (es:List AV):(∀sz' es',km id sz es (.arr sz' es')=.arr sz' es')∧(∀cs,km id sz es (.var cs)=.var (cs.map (cm id sz es)))∧(∀kd l,km id sz es (.mp kd l)=.mp kd l):=⟨fun _ _=>rfl,fun _=>rfl,fun _ _=>rfl⟩
theorem ak5 (id id':Nat):(∀sz es,jL id id' (.arr sz es)=.arr sz es)∧(∀cs,jL id id' (.var cs)=.var (cs.map fun c=>cd id id' (killC id' c)))∧(∀kd l,jL id id' (.mp kd l)=.mp kd l):=⟨fun _ _=>rfl,fun _=>rfl,fun _ _=>rfl⟩
theorem V0 (ids keep:List Nat):(∀sz es,jb ids keep (.arr sz es)=.arr sz es)∧(∀cs,jb ids keep (.var cs)=.var (cs.map (cr ids keep)))∧(∀kd l,jb ids keep (.mp kd l)=.mp kd l):=⟨fun _ _=>rfl,fun _=>rfl,fun _ _=>rfl⟩
theorem RJ (h:HP):(∀sz es,lC h (.arr sz es)=true)∧(∀cs,lC h (.var cs)=cs.all (cK h))∧(∀kd l,lC h (.mp kd l)=true):=⟨fun _ _=>rfl,fun _=>rfl,fun _ _=>rfl⟩
theorem K2 (h:HP):(∀sz es,jC h (.arr sz es)=es.all flA)∧(∀cs,jC h (.var cs)=cs.all (cJ h))∧(∀kd (l:List (MK×AV)),jC h (.mp kd l)=l.all fun p=>flA p.2):=⟨fun _ _=>rfl,fun _=>rfl,fun _ _=>rfl⟩
theorem RH (h:HP):iG h []=true∧(∀k W r,iG h ((k,W)::r)=(lC h W&&iG h r)):=⟨rfl,fun _ _ _=>rfl⟩
theorem KX (h:HP):flH h []=true∧(∀k W r,flH h ((k,W)::r)=(jC h W&&flH h r)):=⟨rfl,fun _ _ _=>rfl⟩
theorem aad:dL []=[]∧(∀k W r,dL ((k,W)::r)=k::dL r):=⟨rfl,fun _ _ _=>rfl⟩
theorem aaN (k:Nat):numbered k []=[]∧(∀x r,numbered k (x::r)=(k,x)::numbered (k+1) r):=⟨rfl,fun _ _=>rfl⟩
theorem ak4 (id id':Nat):renS id id' []=[]∧(∀k v r,renS id id' ((k,v)::r)=(k,dI id id' (kill id' v))::renS id id' r):=⟨rfl,fun _ _ _=>rfl⟩
theorem ak3 (id id':Nat):renH id id' []=[]∧(∀k v r,renH id id' ((k,v)::r)=(rn id id' k,jL id id' v)::renH id id' r):=⟨rfl,fun _ _ _=>rfl⟩
theorem aqX (id id':Nat) (st:St):qf id id' st=⟨renS id id' st.s,renH id id' st.h⟩:=(rfl)
theorem aqS (k id sz:Nat) (st:St):tw k id sz st=⟨(k,.sl id 0 0)::killS id st.s,bX (eZ id st.h) id (.arr sz [])⟩:=(rfl)
theorem aqR (p f id sz:Nat) (cs:List AV) (st:St):tx p f id sz cs st=⟨killS id st.s,bX (bX (eZ id st.h) id (.arr sz [])) p (.var ((cs.map (killC id)).set f (.sl id 0 0)))⟩:=(rfl)
def kp (b:Bool) (x y:Option (List AV)):Option (List AV):=match b with
 | true=>x
 | false=>y
def tr (W:Option aI) (sz o n:Nat):Option (List AV):=match W with
 | some (.arr sz' es)=>kp (sz'==sz) (some (aL es o n)) none
 | _=>none
theorem QO {x y:Option (List AV)}:kp true x y=x:=(rfl)
theorem QN {x y:Option (List AV)}:kp false x y=y:=(rfl)
theorem apl {sz sz' o n:Nat} {es:List AV}:tr (some (.arr sz' es)) sz o n=kp (sz'==sz) (some (aL es o n)) none:=(rfl)
theorem rZ {i j:Nat} {x y:Option (List AV)}:(if i=j then x else y)=kp (i==j) x y:=by
 by_cases h:i=j
 ·subst h;rw[if_pos rfl,show(i==i)=true by simp];rfl
 ·rw[if_neg h,show(i==j)=false by simp[h]];rfl
theorem apk (sz:Nat) (st:St):slE sz st .al=some []∧(∀sz' es,slE sz st (.ro sz' es)=kp (sz'==sz) (some es) none)∧(∀id o n,slE sz st (.sl id o n)=tr (hget st.h id) sz o n):=by
 refine⟨rfl,fun sz' es=>?_,fun id o n=>?_⟩
 ·rw[←rZ];rfl
 ·simp only[slE,tr]
  split
  ·rename_i e;rw[e];exact rZ
  ·rename_i e
   split
   ·rename_i e2;exact(e _ _ e2).elim
   ·rfl
def kB (b:Bool) (l:List Nat):List Nat:=match b with
 | true=>l
 | false=>[]
def keep1 (x a:AV):List Nat:=match x,a with
 | .ab p f,.ab p' f'=>kB (p==p'&&f==f') [p]
 | _,_=>[]
theorem VY (l:List Nat):kB true l=l∧kB false l=[]:=⟨rfl,rfl⟩
theorem V8 (x a:AV) (xs as:List AV):keepL2 (x::xs) (a::as)=keep1 x a++keepL2 xs as:=by
 cases x<;>cases a<;>simp only[keepL2,keep1,List.nil_append]
 rename_i p f p' f'
 by_cases h1:p=p'
 ·by_cases h2:f=f'
  ·subst h1;subst h2;simp[kB]
  ·rw[if_pos h1,if_neg h2,show(p==p'&&f==f')=false by simp[h2]];rfl
 ·rw[if_neg h1,show(p==p'&&f==f')=false by simp[h1]];rfl
theorem V9 (as:List AV):keepL2 [] as=[]:=by simp[keepL2]
theorem Wa (xs:List AV):keepL2 xs []=[]:=by cases xs<;>simp[keepL2]
theorem V6:(∀(a:AV),keep1 AV.undef a=[]) ∧
 (∀(b:Bool) (a:AV),keep1 (.bool b) a=[]) ∧
 (∀(k:IntKind) (n:Int) (a:AV),keep1 (.int k n) a=[]) ∧
 (∀(k:FloatKind) (n:Nat) (a:AV),keep1 (.fl k n) a=[]) ∧
 (∀(k:FloatKind) (m n:Nat) (a:AV),keep1 (.cx k m n) a=[]) ∧
 (∀(l:List UInt8) (a:AV),keep1 (.str l) a=[]) ∧
 (∀(v:Value) (a:AV),keep1 (.lit v) a=[]) ∧
 (∀(a:AV),keep1 AV.al a=[]) ∧
 (∀(sz:Nat) (es:List AV) (a:AV),keep1 (.ro sz es) a=[]) ∧
 (∀(x:AV) (a:AV),keep1 (.au x) a=[]) ∧
 (∀(i o n:Nat) (a:AV),keep1 (.sl i o n) a=[]) ∧
 (∀(i j f:Nat) (a:AV),keep1 (.ptr i j f) a=[]) ∧
 (∀(cs:List AV) (a:AV),keep1 (.agg cs) a=[]) ∧
 (∀(cs:List AV) (a:AV),keep1 (.aj cs) a=[]) ∧
 (∀(b:Bool) (x:AV) (a:AV),keep1 (.gd b x) a=[]) ∧
 (∀(p f:Nat),keep1 (.ab p f) AV.undef=[]) ∧
 (∀(p f:Nat) (b:Bool),keep1 (.ab p f) (.bool b)=[]) ∧
 (∀(p f:Nat) (k:IntKind) (n:Int),keep1 (.ab p f) (.int k n)=[]) ∧
 (∀(p f:Nat) (k:FloatKind) (n:Nat),keep1 (.ab p f) (.fl k n)=[]) ∧
 (∀(p f:Nat) (k:FloatKind) (m n:Nat),keep1 (.ab p f) (.cx k m n)=[]) ∧
 (∀(p f:Nat) (l:List UInt8),keep1 (.ab p f) (.str l)=[]) ∧
 (∀(p f:Nat) (v:Value),keep1 (.ab p f) (.lit v)=[]) ∧
 (∀(p f:Nat),keep1 (.ab p f) AV.al=[]) ∧
 (∀(p f:Nat) (sz:Nat) (es:List AV),keep1 (.ab p f) (.ro sz es)=[]) ∧
 (∀(p f:Nat) (x:AV),keep1 (.ab p f) (.au x)=[]) ∧
 (∀(p f:Nat) (i o n:Nat),keep1 (.ab p f) (.sl i o n)=[]) ∧
 (∀(p f:Nat) (i j f:Nat),keep1 (.ab p f) (.ptr i j f)=[]) ∧
 (∀(p f:Nat) (cs:List AV),keep1 (.ab p f) (.agg cs)=[]) ∧
 (∀(p f:Nat) (cs:List AV),keep1 (.ab p f) (.aj cs)=[]) ∧
 (∀(p f:Nat) (b:Bool) (x:AV),keep1 (.ab p f) (.gd b x)=[]) ∧
 (∀(p f p' f':Nat),keep1 (.ab p f) (.ab p' f')=kB (p==p'&&f==f') [p]):=
 ⟨fun _=>rfl,fun _ _=>rfl,fun _ _ _=>rfl,fun _ _ _=>rfl,fun _ _ _ _=>rfl,fun _ _=>rfl,fun _ _=>rfl,fun _=>rfl,fun _ _ _=>rfl,fun _ _=>rfl,fun _ _ _ _=>rfl,fun _ _ _ _=>rfl,fun _ _=>rfl,fun _ _=>rfl,fun _ _ _=>rfl,fun _ _=>rfl,fun _ _ _=>rfl,fun _ _ _ _=>rfl,fun _ _ _ _=>rfl,fun _ _ _ _ _=>rfl,fun _ _ _=>rfl,fun _ _ _=>rfl,fun _ _=>rfl,fun _ _ _ _=>rfl,fun _ _ _=>rfl,fun _ _ _ _ _=>rfl,fun _ _ _ _ _=>rfl,fun _ _ _=>rfl,fun _ _ _=>rfl,fun _ _ _ _=>rfl,fun _ _ _ _=>rfl⟩
def me (b:Bool) (l:List (Nat×AV)):List (Nat×AV):=match b with
 | true=>l
 | false=>[]
theorem EH (l:List (Nat×AV)):me true l=l∧me false l=[]:=⟨rfl,rfl⟩
def back1 (s:List (Nat×AV)) (h:HP) (k:Nat) (a:AV):List (Nat×AV):=match a with
 | .sl i o n=>me ((hget h i).isSome&&(sget s k).isSome) [(k,.sl i o n)]
 | _=>[]
theorem ER (s:List (Nat×AV)) (h:HP) (k:Nat) (xs:List AE) (a:AV) (as:List AV):backS s h (.t k::xs) (a::as)=back1 s h k a++backS s h xs as:=by
 cases a<;>simp only[backS,back1,List.nil_append]
 rename_i i o n
 cases h1:(hget h i).isSome<;>cases h2:(sget s k).isSome<;>simp[me]
theorem EN (s:List (Nat×AV)) (h:HP) (v:AV) (xs:List AE) (a:AV) (as:List AV):backS s h (.c v::xs) (a::as)=backS s h xs as:=by
 cases a<;>simp only[backS]
theorem EP (s:List (Nat×AV)) (h:HP) (as:List AV):backS s h [] as=[]:=by simp[backS]
theorem EM:(∀(s:List (Nat×AV)) (h:HP) (k0:Nat),back1 s h k0 AV.undef=[]) ∧
 (∀(s:List (Nat×AV)) (h:HP) (k0:Nat) (b:Bool),back1 s h k0 (.bool b)=[]) ∧
 (∀(s:List (Nat×AV)) (h:HP) (k0:Nat) (k:IntKind) (n:Int),back1 s h k0 (.int k n)=[]) ∧
 (∀(s:List (Nat×AV)) (h:HP) (k0:Nat) (k:FloatKind) (n:Nat),back1 s h k0 (.fl k n)=[]) ∧
 (∀(s:List (Nat×AV)) (h:HP) (k0:Nat) (k:FloatKind) (m n:Nat),back1 s h k0 (.cx k m n)=[]) ∧
 (∀(s:List (Nat×AV)) (h:HP) (k0:Nat) (l:List UInt8),back1 s h k0 (.str l)=[]) ∧
 (∀(s:List (Nat×AV)) (h:HP) (k0:Nat) (v:Value),back1 s h k0 (.lit v)=[]) ∧
 (∀(s:List (Nat×AV)) (h:HP) (k0:Nat),back1 s h k0 AV.al=[]) ∧
 (∀(s:List (Nat×AV)) (h:HP) (k0:Nat) (sz:Nat) (es:List AV),back1 s h k0 (.ro sz es)=[]) ∧
 (∀(s:List (Nat×AV)) (h:HP) (k0:Nat) (x:AV),back1 s h k0 (.au x)=[]) ∧
 (∀(s:List (Nat×AV)) (h:HP) (k0:Nat) (i j f:Nat),back1 s h k0 (.ptr i j f)=[]) ∧
 (∀(s:List (Nat×AV)) (h:HP) (k0:Nat) (cs:List AV),back1 s h k0 (.agg cs)=[]) ∧
 (∀(s:List (Nat×AV)) (h:HP) (k0:Nat) (cs:List AV),back1 s h k0 (.aj cs)=[]) ∧
 (∀(s:List (Nat×AV)) (h:HP) (k0:Nat) (b:Bool) (x:AV),back1 s h k0 (.gd b x)=[]) ∧
 (∀(s:List (Nat×AV)) (h:HP) (k0:Nat) (i f:Nat),back1 s h k0 (.ab i f)=[]) ∧
 (∀(s:List (Nat×AV)) (h:HP) (k0:Nat) (i o n:Nat),back1 s h k0 (.sl i o n)=me ((hget h i).isSome&&(sget s k0).isSome) [(k0,.sl i o n)]):=
 ⟨fun _ _ _=>rfl,fun _ _ _ _=>rfl,fun _ _ _ _ _=>rfl,fun _ _ _ _ _=>rfl,fun _ _ _ _ _ _=>rfl,fun _ _ _ _=>rfl,fun _ _ _ _=>rfl,fun _ _ _=>rfl,fun _ _ _ _ _=>rfl,fun _ _ _ _=>rfl,fun _ _ _ _ _ _=>rfl,fun _ _ _ _=>rfl,fun _ _ _ _=>rfl,fun _ _ _ _ _=>rfl,fun _ _ _ _ _=>rfl,fun _ _ _ _ _ _=>rfl⟩
theorem Dl (st:St) (h:HP) (args:List AE) (h':HP) (as:List AV):gq st h args h' as=⟨backS st.s h' args as++killSI (dL h++dL h') (keepL2 (args.map (ev st)) as) st.s,h'++dropH (dL h++dL h') (keepL2 (args.map (ev st)) as) st.h⟩:=(rfl)
theorem aqN (sz:Nat) (st:St):(∀l,srcE sz st (.str l)=kp (sz==1) (some (l.map ub)) none)∧srcE sz st .al=slE sz st .al∧(∀sz' es,srcE sz st (.ro sz' es)=slE sz st (.ro sz' es))∧(∀id o n,srcE sz st (.sl id o n)=slE sz st (.sl id o n)):=
 ⟨fun l=>by rw[←rZ];rfl,rfl,fun _ _=>rfl,fun _ _ _=>rfl⟩
theorem Hc (x:AV):ba x=(cellsOf x).all isCell:=(rfl)
theorem aol {α:Type} (l:List α) (k:Nat) (s:List α):dm l k s=l.take k++s++l.drop (k+s.length):=(rfl)
theorem abr:(∀x,packC [x]=x)∧packC []=.agg []∧(∀x y r,packC (x::y::r)=.agg (x::y::r)):=⟨fun _=>rfl,rfl,fun _ _ _=>rfl⟩
theorem abH (γ β:Bool) (x y:AV) :
 (∀p q,pick2 γ β x y (.bool p) (.bool q)=.ok ((γ=true→β=true→az true x)∧(γ=true→β=false→az true y)) (.bool (if β then p else q))) ∧
 (∀p,pick2 γ β x y (.bool p) .undef=.ok (γ=true→β=true∧az true x) (.bool p)) ∧
 (∀q,pick2 γ β x y .undef (.bool q)=.ok (γ=true→β=false∧az true y) (.bool q)):=⟨fun _ _=>rfl,fun _=>rfl,fun _=>rfl⟩
theorem abI (γ β:Bool) (x y:AV):pickR γ (.bool β) x y=pick2 γ β x y (stripV x) (stripV y):=(rfl)
theorem Wg (st:St):(∀id o n,keepR st (.sl id o n)=keepSl st id o n (hget st.h id)) ∧
 (∀b,keepR st (.bool b)=.ok (bP (.bool b)=true∧ba (.bool b)=true) (.bool b) st) ∧
 (∀k n,keepR st (.int k n)=.ok (bP (.int k n)=true∧ba (.int k n)=true) (.int k n) st) ∧
 (∀k n,keepR st (.fl k n)=.ok (bP (.fl k n)=true∧ba (.fl k n)=true) (.fl k n) st) ∧
 (∀k a b,keepR st (.cx k a b)=.ok (bP (.cx k a b)=true∧ba (.cx k a b)=true) (.cx k a b) st) ∧
 (∀l,keepR st (.str l)=.ok (bP (.str l)=true∧ba (.str l)=true) (.str l) st) ∧
 (∀l,keepR st (.lit l)=.ok (bP (.lit l)=true∧ba (.lit l)=true) (.lit l) st) ∧
 (keepR st .al=.ok (bP .al=true∧ba .al=true) .al st) ∧
 (∀sz es,keepR st (.ro sz es)=.ok (bP (.ro sz es)=true∧ba (.ro sz es)=true) (.ro sz es) st) ∧
 (∀x,keepR st (.au x)=.ok (bP (.au x)=true∧ba (.au x)=true) (.au x) st) ∧
 (∀cs,keepR st (.agg cs)=.ok (bP (.agg cs)=true∧ba (.agg cs)=true) (.agg cs) st):=
 ⟨fun _ _ _=>rfl,fun _=>rfl,fun _ _=>rfl,fun _ _=>rfl,fun _ _ _=>rfl,fun _=>rfl,fun _=>rfl,rfl,fun _ _=>rfl,fun _=>rfl,fun _=>rfl⟩
theorem Dy :
 (∀(c:Prop) d v,andR c (.ok d v)=.ok (c∧d) v) ∧
 (∀(c:Prop),andR c (.fail)=.fail):=
 ⟨(fun _ _ _=>rfl),(fun _=>rfl)⟩
theorem Se :
 (∀(γ:Bool) (k:IntKind) (k':IntKind) (x:Int) (y:Int),intR γ (.shl) k k' x y=.ok (γ=true→0≤y) (.int k (k.wrap (x*2^(min y.toNat k.bits))))) ∧
 (∀(γ:Bool) (k:IntKind) (k':IntKind) (x:Int) (y:Int),intR γ (.shr) k k' x y=.ok (γ=true→0≤y) (.int k (x.fdiv (2^(min y.toNat k.bits))))) ∧
 (∀(γ:Bool) (k:IntKind) (k':IntKind) (x:Int) (y:Int),intR γ (.add) k k' x y=.ok (k=k') (.int k (k.wrap (x+y)))) ∧
 (∀(γ:Bool) (k:IntKind) (k':IntKind) (x:Int) (y:Int),intR γ (.sub) k k' x y=.ok (k=k') (.int k (k.wrap (x-y)))) ∧
 (∀(γ:Bool) (k:IntKind) (k':IntKind) (x:Int) (y:Int),intR γ (.mul) k k' x y=.ok (k=k') (.int k (k.wrap (x*y)))) ∧
 (∀(γ:Bool) (k:IntKind) (k':IntKind) (x:Int) (y:Int),intR γ (.quo) k k' x y=.ok (k=k'∧(γ=true→y≠0)) (.int k (k.wrap (x.tdiv y)))) ∧
 (∀(γ:Bool) (k:IntKind) (k':IntKind) (x:Int) (y:Int),intR γ (.rem) k k' x y=.ok (k=k'∧(γ=true→y≠0)) (.int k (x.tmod y))) ∧
 (∀(γ:Bool) (k:IntKind) (k':IntKind) (x:Int) (y:Int),intR γ (.and) k k' x y=.ok (k=k') (.int k (bits .and k x y))) ∧
 (∀(γ:Bool) (k:IntKind) (k':IntKind) (x:Int) (y:Int),intR γ (.or) k k' x y=.ok (k=k') (.int k (bits .or k x y))) ∧
 (∀(γ:Bool) (k:IntKind) (k':IntKind) (x:Int) (y:Int),intR γ (.xor) k k' x y=.ok (k=k') (.int k (bits .xor k x y))) ∧
 (∀(γ:Bool) (k:IntKind) (k':IntKind) (x:Int) (y:Int),intR γ (.andNot) k k' x y=.ok (k=k') (.int k (bits .andNot k x y))) ∧
 (∀(γ:Bool) (k:IntKind) (k':IntKind) (x:Int) (y:Int),intR γ (.eql) k k' x y=.ok (k=k') (.bool (decide (x=y)))) ∧
 (∀(γ:Bool) (k:IntKind) (k':IntKind) (x:Int) (y:Int),intR γ (.neq) k k' x y=.ok (k=k') (.bool (!decide (x=y)))) ∧
 (∀(γ:Bool) (k:IntKind) (k':IntKind) (x:Int) (y:Int),intR γ (.lss) k k' x y=.ok (k=k') (.bool (decide (x<y)))) ∧
 (∀(γ:Bool) (k:IntKind) (k':IntKind) (x:Int) (y:Int),intR γ (.leq) k k' x y=.ok (k=k') (.bool (decide (x≤y)))) ∧
 (∀(γ:Bool) (k:IntKind) (k':IntKind) (x:Int) (y:Int),intR γ (.gtr) k k' x y=.ok (k=k') (.bool (decide (y<x)))) ∧
 (∀(γ:Bool) (k:IntKind) (k':IntKind) (x:Int) (y:Int),intR γ (.geq) k k' x y=.ok (k=k') (.bool (decide (y≤x)))):=
 ⟨(fun _ _ _ _ _=>rfl),(fun _ _ _ _ _=>rfl),(fun _ _ _ _ _=>rfl),(fun _ _ _ _ _=>rfl),(fun _ _ _ _ _=>rfl),(fun _ _ _ _ _=>rfl),(fun _ _ _ _ _=>rfl),(fun _ _ _ _ _=>rfl),(fun _ _ _ _ _=>rfl),(fun _ _ _ _ _=>rfl),(fun _ _ _ _ _=>rfl),(fun _ _ _ _ _=>rfl),(fun _ _ _ _ _=>rfl),(fun _ _ _ _ _=>rfl),(fun _ _ _ _ _=>rfl),(fun _ _ _ _ _=>rfl),(fun _ _ _ _ _=>rfl)⟩
theorem arb :
 (∀(γ:Bool) (x:List UInt8) (y:List UInt8),iM γ (.add) x y=.ok (γ=true→x.length+y.length≤9223372036854775807) (.str (x++y))) ∧
 (∀(γ:Bool) (x:List UInt8) (y:List UInt8),iM γ (.eql) x y=.ok True (.bool (x==y))) ∧
 (∀(γ:Bool) (x:List UInt8) (y:List UInt8),iM γ (.neq) x y=.ok True (.bool (!(x==y)))) ∧
 (∀(γ:Bool) (x:List UInt8) (y:List UInt8),iM γ (.lss) x y=.ok True (.bool (Op.bytesLess x y))) ∧
 (∀(γ:Bool) (x:List UInt8) (y:List UInt8),iM γ (.leq) x y=.ok True (.bool (Op.bytesLess x y||x==y))) ∧
 (∀(γ:Bool) (x:List UInt8) (y:List UInt8),iM γ (.gtr) x y=.ok True (.bool (!(Op.bytesLess x y||x==y)))) ∧
 (∀(γ:Bool) (x:List UInt8) (y:List UInt8),iM γ (.geq) x y=.ok True (.bool (!Op.bytesLess x y))):=
 ⟨(fun _ _ _=>rfl),(fun _ _ _=>rfl),(fun _ _ _=>rfl),(fun _ _ _=>rfl),(fun _ _ _=>rfl),(fun _ _ _=>rfl),(fun _ _ _=>rfl)⟩
theorem K0 :
 (∀(k:FloatKind) (k':FloatKind) (x:Nat) (y:Nat),gB (.add) k k' x y=.ok (k=k'∧(k.format.add x y).isSome=true) (.fl k ((k.format.add x y).getD 0))) ∧
 (∀(k:FloatKind) (k':FloatKind) (x:Nat) (y:Nat),gB (.sub) k k' x y=.ok (k=k'∧(k.format.sub x y).isSome=true) (.fl k ((k.format.sub x y).getD 0))) ∧
 (∀(k:FloatKind) (k':FloatKind) (x:Nat) (y:Nat),gB (.mul) k k' x y=.ok (k=k'∧(k.format.mul x y).isSome=true) (.fl k ((k.format.mul x y).getD 0))) ∧
 (∀(k:FloatKind) (k':FloatKind) (x:Nat) (y:Nat),gB (.eql) k k' x y=.ok (k=k') (.bool (k.format.order x y==some .eq))) ∧
 (∀(k:FloatKind) (k':FloatKind) (x:Nat) (y:Nat),gB (.neq) k k' x y=.ok (k=k') (.bool (k.format.order x y != some .eq))) ∧
 (∀(k:FloatKind) (k':FloatKind) (x:Nat) (y:Nat),gB (.lss) k k' x y=.ok (k=k') (.bool (k.format.order x y==some .lt))) ∧
 (∀(k:FloatKind) (k':FloatKind) (x:Nat) (y:Nat),gB (.gtr) k k' x y=.ok (k=k') (.bool (k.format.order x y==some .gt))) ∧
 (∀(k:FloatKind) (k':FloatKind) (x:Nat) (y:Nat),gB (.leq) k k' x y=.ok (k=k') (.bool (k.format.order x y==some .lt||k.format.order x y==some .eq))) ∧
 (∀(k:FloatKind) (k':FloatKind) (x:Nat) (y:Nat),gB (.geq) k k' x y=.ok (k=k') (.bool (k.format.order x y==some .gt||k.format.order x y==some .eq))):=
 ⟨(fun _ _ _ _=>rfl),(fun _ _ _ _=>rfl),(fun _ _ _ _=>rfl),(fun _ _ _ _=>rfl),(fun _ _ _ _=>rfl),(fun _ _ _ _=>rfl),(fun _ _ _ _=>rfl),(fun _ _ _ _=>rfl),(fun _ _ _ _=>rfl)⟩
theorem Ix :
 (∀(k:FloatKind) (k':FloatKind) (a:Nat) (b:Nat) (c:Nat) (d:Nat),ke (.add) k k' a b c d=.ok (k=k'∧(k.format.add a c).isSome=true∧(k.format.add b d).isSome=true) (.cx k ((k.format.add a c).getD 0) ((k.format.add b d).getD 0))) ∧
 (∀(k:FloatKind) (k':FloatKind) (a:Nat) (b:Nat) (c:Nat) (d:Nat),ke (.sub) k k' a b c d=.ok (k=k'∧(k.format.sub a c).isSome=true∧(k.format.sub b d).isSome=true) (.cx k ((k.format.sub a c).getD 0) ((k.format.sub b d).getD 0))) ∧
 (∀(k:FloatKind) (k':FloatKind) (a:Nat) (b:Nat) (c:Nat) (d:Nat),ke (.eql) k k' a b c d=.ok (k=k') (.bool (k.format.order a c==some .eq&&k.format.order b d==some .eq))) ∧
 (∀(k:FloatKind) (k':FloatKind) (a:Nat) (b:Nat) (c:Nat) (d:Nat),ke (.neq) k k' a b c d=.ok (k=k') (.bool (!(k.format.order a c==some .eq&&k.format.order b d==some .eq)))):=
 ⟨(fun _ _ _ _ _ _=>rfl),(fun _ _ _ _ _ _=>rfl),(fun _ _ _ _ _ _=>rfl),(fun _ _ _ _ _ _=>rfl)⟩
theorem Fs :
 (∀(γ:Bool) (op:BinOp) k a k' b,binR γ op (.int k a) (.int k' b)=intR γ op k k' a b) ∧
 (∀(γ:Bool) (op:BinOp) a b,binR γ op (.str a) (.str b)=iM γ op a b) ∧
 (∀(γ:Bool) (op:BinOp) k a k' b,binR γ op (.fl k a) (.fl k' b)=gB op k k' a b) ∧
 (∀(γ:Bool) (op:BinOp) k a b k' c d,binR γ op (.cx k a b) (.cx k' c d)=ke op k k' a b c d):=
 ⟨(fun _ _ _ _ _ _=>rfl),(fun _ _ _ _=>rfl),(fun _ _ _ _ _ _=>rfl),(fun _ _ _ _ _ _ _ _=>rfl)⟩
theorem EU :
 (∀(neg:Bool) a b,beqR neg (.bool a) (.bool b)=.ok True (.bool (if neg then !(a==b)else a==b))):=
 (fun _ _ _=>rfl)
theorem Kg :
 (∀a b,eqOK 0 (.bool a) (.bool b)=true)∧(∀k a k' b,eqOK 1 (.int k a) (.int k' b)=(k==k'))∧(∀a b,eqOK 2 (.str a) (.str b)=true):=⟨(fun _ _=>rfl),(fun _ _ _ _=>rfl),(fun _ _=>rfl)⟩
theorem Kd :
 (∀a b,eqC (.bool a) (.bool b)=(a==b))∧(∀k a k' b,eqC (.int k a) (.int k' b)=decide (a=b))∧(∀a b,eqC (.str a) (.str b)=(a==b)):=⟨(fun _ _=>rfl),(fun _ _ _ _=>rfl),(fun _ _=>rfl)⟩
theorem Rq (k:IntKind):(k==k)=true:=by cases k<;>decide
theorem Ki:eqOKs [] [] []=true:=(rfl)
theorem Kh (k:Nat) (ks:List Nat) (c:AV) (cs:List AV) (d:AV) (ds:List AV):eqOKs (k::ks) (c::cs) (d::ds)=(eqOK k c d&&eqOKs ks cs ds):=(rfl)
theorem Kf:eqCs [] []=true:=(rfl)
theorem Ke (c:AV) (cs:List AV) (d:AV) (ds:List AV):eqCs (c::cs) (d::ds)=(eqC c d&&eqCs cs ds):=(rfl)
theorem Dh (γ neg:Bool) (ks:List Nat) (cs ds:List AV):aeqR γ neg ks (.agg cs) (.agg ds)=.ok (γ=true→eqOKs ks cs ds=true) (.bool (if neg then !(eqCs cs ds)else eqCs cs ds)):=(rfl)
theorem D7 (γ:Bool) (st:St) (neg:Bool) (ks:List Nat) (x y:AE):avalR γ st (.j2 neg ks x y)=andR (az γ (ev st x)) (andR (az γ (ev st y)) (aeqR γ neg ks (stripV (ev st x)) (stripV (ev st y)))):=(rfl)
theorem ase :
 (∀b,unR (.not) (.bool b)=.ok True (.bool (!b))) ∧
 (∀k n,unR (.neg) (.int k n)=.ok True (.int k (k.wrap (0-n)))) ∧
 (∀k n,unR (.xor) (.int k n)=.ok True (.int k (bits .xor k (if k.signed then -1 else k.max) n))):=
 ⟨(fun _=>rfl),(fun _ _=>rfl),(fun _ _=>rfl)⟩
theorem It :
 (∀(k:IntKind) u1 n,cviR k (.int u1 n)=.ok True (.int k (k.wrap n))):=
 (fun _ _ _=>rfl)
theorem HK :
 (∀(k:FloatKind) u1 n,og k (.int u1 n)=.ok True (.fl k (k.nearest n))):=
 (fun _ _ _=>rfl)
theorem Hy :
 (∀(γ:Bool) (k:IntKind) s b,cfiR γ k (.fl s b)=.ok (γ=true→(floatToIntVal s b k).isSome=true) (.int k ((floatToIntVal s b k).getD 0))):=
 (fun _ _ _ _=>rfl)
theorem Io :
 (∀s,cstR (.str s)=.ok True (.str s)):=
 (fun _=>rfl)
theorem GV :
 (∀(γ:Bool) es,btsR γ (some es)=.ok (γ=true→eH es=true) (.str (bytesOf es))) ∧
 (∀(γ:Bool),btsR γ (none)=.fail):=
 ⟨(fun _ _=>rfl),(fun _=>rfl)⟩
theorem Im :
 (∀k a k' b,cplxR (.fl k a) (.fl k' b)=.ok (k=k') (.cx k a b)):=
 (fun _ _ _ _=>rfl)
theorem akV :
 (∀k a u1,reR (.cx k a u1)=.ok True (.fl k a)):=
 (fun _ _ _=>rfl)
theorem RE :
 (∀k u1 b,pn (.cx k u1 b)=.ok True (.fl k b)):=
 (fun _ _ _=>rfl)
theorem Ya :
 (∀l,lenR (true) (.str l)=.ok True (.int .i64 l.length)) ∧
 (∀u1 es,lenR (false) (.ro u1 es)=.ok True (.int .i64 es.length)) ∧
 (∀u1 u2 n,lenR (false) (.sl u1 u2 n)=.ok True (.int .i64 n)) ∧
 (lenR (false) (.al)=.ok True (.int .i64 0)):=
 ⟨(fun _=>rfl),(fun _ _=>rfl),(fun _ _ _=>rfl),rfl⟩
theorem Z2 :
 (∀(mx:Bool) k a u1 b,mmR mx (.int k a) (.int u1 b)=.ok True (.int k (if mx then(if b > a then b else a)else(if b<a then b else a)))):=
 (fun _ _ _ _ _=>rfl)
theorem Kl :
 (∀(i:Nat) vs,extR (.aj vs) i=.ok (i<vs.length) (vs.getD i .undef)):=
 (fun _ _=>rfl)
theorem aaj :
 (∀e,nilcR (.au e)=.ok True (.au e)) ∧
 (∀id f,nilcR (.ab id f)=.ok True (.ab id f)):=
 ⟨(fun _=>rfl),(fun _ _=>rfl)⟩
theorem QM :
 (∀(γ:Bool) (sz:Nat) (id:Nat) (off:Nat) (n:Nat) (i:Int) sz' u1,idxW γ sz (some (.arr sz' u1)) id off n i=.ok ((γ=true→0≤i∧i<n)∧0<sz∧sz'=sz) (.ptr id (off+i.toNat) 0)):=
 (fun _ _ _ _ _ _ _ _=>rfl)
theorem QK :
 (∀(γ:Bool) (st:St) (sz:Nat) sz' es u1 i,idxR γ st sz (.ro sz' es) (.int u1 i)=.ok ((γ=true→0≤i∧i<es.length)∧0<sz∧sz'=sz) (.au (nth es i.toNat))) ∧
 (∀(γ:Bool) (st:St) (sz:Nat) id off n u1 i,idxR γ st sz (.sl id off n) (.int u1 i)=idxW γ sz (hget st.h id) id off n i):=
 ⟨(fun _ _ _ _ _ _ _=>rfl),(fun _ _ _ _ _ _ _ _=>rfl)⟩
theorem ao5 :
 (∀(γ:Bool) l u1 i,sidxR γ (.str l) (.int u1 i)=.ok (γ=true→0≤i∧i<l.length) (.int .u8 (l.getD i.toNat 0).toNat)):=
 (fun _ _ _ _=>rfl)
theorem XY :
 (∀(γ:Bool) (n:Nat) (cs:List AV),ldcR γ (true) n cs=.ok (γ=true→n≤cs.length) (.agg (cs.take n))) ∧
 (∀(γ:Bool) (n:Nat) (cs:List AV),ldcR γ (false) n cs=.ok (γ=true→0<cs.length) (cs.getD 0 .undef)):=
 ⟨(fun _ _ _=>rfl),(fun _ _ _=>rfl)⟩
theorem XR :
 (∀(γ:Bool) (ag:Bool) (n:Nat) (i:Nat) (f:Nat) u1 es,px γ ag n i f (some (.arr u1 es))=ldcR γ ag n ((cellsOf (nth es i)).drop f)):=
 (fun _ _ _ _ _ _ _=>rfl)
theorem XW :
 (∀(γ:Bool) (ag:Bool) (n:Nat) (f:Nat) cs,ldV γ ag n f (some (.var cs))=ldcR γ ag n (cs.drop f)):=
 (fun _ _ _ _ _=>rfl)
theorem XV :
 (∀(γ:Bool) (st:St) (ag:Bool) (n:Nat) e,ldR γ st ag n (.au e)=ldcR γ ag n (cellsOf e)) ∧
 (∀(γ:Bool) (st:St) (ag:Bool) (n:Nat) id i f,ldR γ st ag n (.ptr id i f)=px γ ag n i f (hget st.h id)) ∧
 (∀(γ:Bool) (st:St) (ag:Bool) (n:Nat) id f,ldR γ st ag n (.ab id f)=ldV γ ag n f (hget st.h id)):=
 ⟨(fun _ _ _ _ _=>rfl),(fun _ _ _ _ _ _ _=>rfl),(fun _ _ _ _ _ _=>rfl)⟩
theorem EE :
 (∀(γ:Bool) (n:Nat) (c:Prop) u1 l,nN γ n c (.int u1 l)=.ok (c∧(γ=true→0≤l∧l≤n)) l.toNat n):=
 (fun _ _ _ _ _=>rfl)
theorem EF :
 (∀(γ:Bool) (n:Nat) (c:Prop) u1 h,nP γ n c (.int u1 h)=.ok (c∧(γ=true→0≤h∧h≤n)) 0 h.toNat):=
 (fun _ _ _ _ _=>rfl)
theorem EG :
 (∀(γ:Bool) (n:Nat) (c:Prop) (c':Prop) u1 l u2 h,nQ γ n c c' (.int u1 l) (.int u2 h)=.ok (c∧c'∧(γ=true→0≤l∧l≤h∧h≤n)) l.toNat h.toNat):=
 (fun _ _ _ _ _ _ _ _=>rfl)
theorem Gi :
 (∀(γ:Bool) (st:St) (n:Nat),bndR γ st n (none) (none)=.ok True 0 n) ∧
 (∀(γ:Bool) (st:St) (n:Nat) l,bndR γ st n (some l) (none)=nN γ n (az γ (ev st l)) (stripV (ev st l))) ∧
 (∀(γ:Bool) (st:St) (n:Nat) h,bndR γ st n (none) (some h)=nP γ n (az γ (ev st h)) (stripV (ev st h))) ∧
 (∀(γ:Bool) (st:St) (n:Nat) l h,bndR γ st n (some l) (some h)=nQ γ n (az γ (ev st l)) (az γ (ev st h)) (stripV (ev st l)) (stripV (ev st h))):=
 ⟨(fun _ _ _=>rfl),(fun _ _ _ _=>rfl),(fun _ _ _ _=>rfl),(fun _ _ _ _ _=>rfl)⟩
theorem apt :
 (∀(s:List UInt8) c l h,slcStrR s (.ok c l h)=.ok c (.str ((s.drop l).take (h-l)))) ∧
 (∀(s:List UInt8),slcStrR s (.fail)=.fail):=
 ⟨(fun _ _ _ _=>rfl),(fun _=>rfl)⟩
theorem apr :
 (∀(γ:Bool) (st:St) (lo:Option AE) (hi:Option AE) s,qb γ st lo hi (.str s)=slcStrR s (bndR γ st s.length lo hi)):=
 (fun _ _ _ _ _=>rfl)
theorem apo :
 (∀c u1 u2,ng (.ok c u1 u2)=.ok c .al) ∧
 (ng (.fail)=.fail):=
 ⟨(fun _ _ _=>rfl),rfl⟩
theorem apq :
 (∀(sz:Nat) (sz':Nat) (es:List AV) c l h,nh sz sz' es (.ok c l h)=.ok (sz'=sz∧c) (.ro sz (aL es l (h-l)))) ∧
 (∀(sz:Nat) (sz':Nat) (es:List AV),nh sz sz' es (.fail)=.fail):=
 ⟨(fun _ _ _ _ _ _=>rfl),(fun _ _ _=>rfl)⟩
theorem aps :
 (∀(sz:Nat) (id:Nat) (off:Nat) c l h sz' u1,slcSlR sz id off (some (.arr sz' u1)) (.ok c l h)=.ok (c∧sz'=sz) (.sl id (off+l) (h-l))):=
 (fun _ _ _ _ _ _ _ _=>rfl)
theorem apn :
 (∀(γ:Bool) (st:St) (sz:Nat) (lo:Option AE) (hi:Option AE),slcAR γ st sz lo hi (.al)=ng (bndR γ st 0 lo hi)) ∧
 (∀(γ:Bool) (st:St) (sz:Nat) (lo:Option AE) (hi:Option AE) sz' es,slcAR γ st sz lo hi (.ro sz' es)=nh sz sz' es (bndR γ st es.length lo hi)) ∧
 (∀(γ:Bool) (st:St) (sz:Nat) (lo:Option AE) (hi:Option AE) id off n,slcAR γ st sz lo hi (.sl id off n)=slcSlR sz id off (hget st.h id) (bndR γ st n lo hi)):=
 ⟨(fun _ _ _ _ _=>rfl),(fun _ _ _ _ _ _ _=>rfl),(fun _ _ _ _ _ _ _ _=>rfl)⟩
theorem Ld :
 (∀(off:Nat) (id:Nat) (i:Nat) (f:Nat) sz u1,oS off (some (.arr sz u1)) id i f=.ok (f+off<sz) (.ptr id i (f+off))):=
 (fun _ _ _ _ _ _=>rfl)
theorem Lb :
 (∀(γ:Bool) (off:Nat) (n:Nat) (cs:List AV),oQ γ (true) off n cs=.ok ((γ=true→off+n≤cs.length)∧0<n) (.au (.agg ((cs.drop off).take n)))) ∧
 (∀(γ:Bool) (off:Nat) (n:Nat) (cs:List AV),oQ γ (false) off n cs=.ok ((γ=true→off+n≤cs.length)∧0<n∧n=1∧isCell (cs.getD off .undef)=true) (.au (cs.getD off .undef))):=
 ⟨(fun _ _ _ _=>rfl),(fun _ _ _ _=>rfl)⟩
theorem La :
 (∀(γ:Bool) (st:St) (ag:Bool) (off:Nat) (n:Nat) e,kl γ st ag off n (.au e)=oQ γ ag off n (cellsOf e)) ∧
 (∀(γ:Bool) (st:St) (ag:Bool) (off:Nat) (n:Nat) id i f,kl γ st ag off n (.ptr id i f)=oS off (hget st.h id) id i f) ∧
 (∀(γ:Bool) (st:St) (ag:Bool) (off:Nat) (n:Nat) id f,kl γ st ag off n (.ab id f)=.ok True (.ab id (f+off))):=
 ⟨(fun _ _ _ _ _ _=>rfl),(fun _ _ _ _ _ _ _ _=>rfl),(fun _ _ _ _ _ _ _=>rfl)⟩
theorem Lc :
 (∀(γ:Bool) (ag:Bool) (off:Nat) (n:Nat) cs,fldR γ ag off n (.agg cs)=.ok ((γ=true→off+n≤cs.length)∧0<n) (if ag then .agg ((cs.drop off).take n)else cs.getD off .undef)):=
 (fun _ _ _ _ _=>rfl)
theorem Ea :
 (∀(γ:Bool) (st:St) x,avalR γ st (.ah x)=andR (az γ (ev st x)) (.ok True (stripV (ev st x)))) ∧
 (∀(γ:Bool) (st:St) c x y,avalR γ st (.pick c x y)=andR (az γ (ev st c)) (pickR γ (stripV (ev st c)) (ev st x) (ev st y))) ∧
 (∀(γ:Bool) (st:St) op x y,avalR γ st (.bin op x y)=andR (az γ (ev st x)) (andR (az γ (ev st y)) (binR γ op (stripV (ev st x)) (stripV (ev st y))))) ∧
 (∀(γ:Bool) (st:St) neg x y,avalR γ st (.beq neg x y)=andR (az γ (ev st x)) (andR (az γ (ev st y)) (beqR neg (stripV (ev st x)) (stripV (ev st y))))) ∧
 (∀(γ:Bool) (st:St) op x,avalR γ st (.un op x)=andR (az γ (ev st x)) (unR op (stripV (ev st x)))) ∧
 (∀(γ:Bool) (st:St) k x,avalR γ st (.a6 k x)=andR (az γ (ev st x)) (cviR k (stripV (ev st x)))) ∧
 (∀(γ:Bool) (st:St) k x,avalR γ st (.oe k x)=andR (az γ (ev st x)) (og k (stripV (ev st x)))) ∧
 (∀(γ:Bool) (st:St) k x,avalR γ st (.od k x)=andR (az γ (ev st x)) (cfiR γ k (stripV (ev st x)))) ∧
 (∀(γ:Bool) (st:St) x,avalR γ st (.om x)=andR (az γ (ev st x)) (cstR (stripV (ev st x)))) ∧
 (∀(γ:Bool) (st:St) x,avalR γ st (.dK x)=andR (az γ (ev st x)) (btsR γ (slE 1 st (stripV (ev st x))))) ∧
 (∀(γ:Bool) (st:St) x y,avalR γ st (.oh x y)=andR (az γ (ev st x)) (andR (az γ (ev st y)) (cplxR (stripV (ev st x)) (stripV (ev st y))))) ∧
 (∀(γ:Bool) (st:St) x,avalR γ st (.re x)=andR (az γ (ev st x)) (reR (stripV (ev st x)))) ∧
 (∀(γ:Bool) (st:St) x,avalR γ st (.im x)=andR (az γ (ev st x)) (pn (stripV (ev st x)))) ∧
 (∀(γ:Bool) (st:St) str x,avalR γ st (.len str x)=andR (az γ (ev st x)) (lenR str (stripV (ev st x)))) ∧
 (∀(γ:Bool) (st:St) mx x y,avalR γ st (.mm mx x y)=andR (az γ (ev st x)) (andR (az γ (ev st y)) (mmR mx (stripV (ev st x)) (stripV (ev st y))))) ∧
 (∀(γ:Bool) (st:St) x i,avalR γ st (.ext x i)=andR (az γ (ev st x)) (extR (stripV (ev st x)) i)) ∧
 (∀(γ:Bool) (st:St) x,avalR γ st (.ao x)=andR (az γ (ev st x)) (nilcR (stripV (ev st x)))) ∧
 (∀(γ:Bool) (st:St) sz x i,avalR γ st (.aY sz x i)=andR (az γ (ev st x)) (andR (az γ (ev st i)) (idxR γ st sz (stripV (ev st x)) (stripV (ev st i))))) ∧
 (∀(γ:Bool) (st:St) x i,avalR γ st (.cv x i)=andR (az γ (ev st x)) (andR (az γ (ev st i)) (sidxR γ (stripV (ev st x)) (stripV (ev st i))))) ∧
 (∀(γ:Bool) (st:St) ag n x,avalR γ st (.ld ag n x)=andR (az γ (ev st x)) (ldR γ st ag n (stripV (ev st x)))) ∧
 (∀(γ:Bool) (st:St) x lo hi,avalR γ st (.cy x lo hi)=andR (az γ (ev st x)) (qb γ st lo hi (stripV (ev st x)))) ∧
 (∀(γ:Bool) (st:St) sz x lo hi,avalR γ st (.fU sz x lo hi)=andR (az γ (ev st x)) (slcAR γ st sz lo hi (stripV (ev st x)))) ∧
 (∀(γ:Bool) (st:St) ag off n x,avalR γ st (.ak ag off n x)=andR (az γ (ev st x)) (kl γ st ag off n (stripV (ev st x)))) ∧
 (∀(γ:Bool) (st:St) ag off n x,avalR γ st (.oP ag off n x)=andR (az γ (ev st x)) (fldR γ ag off n (stripV (ev st x)))):=
 ⟨(fun _ _ _=>rfl),(fun _ _ _ _ _=>rfl),(fun _ _ _ _ _=>rfl),(fun _ _ _ _ _=>rfl),(fun _ _ _ _=>rfl),(fun _ _ _ _=>rfl),(fun _ _ _ _=>rfl),(fun _ _ _ _=>rfl),(fun _ _ _=>rfl),(fun _ _ _=>rfl),(fun _ _ _ _=>rfl),(fun _ _ _=>rfl),(fun _ _ _=>rfl),(fun _ _ _ _=>rfl),(fun _ _ _ _ _=>rfl),(fun _ _ _ _=>rfl),(fun _ _ _=>rfl),(fun _ _ _ _ _=>rfl),(fun _ _ _ _=>rfl),(fun _ _ _ _ _=>rfl),(fun _ _ _ _ _=>rfl),(fun _ _ _ _ _ _=>rfl),(fun _ _ _ _ _ _=>rfl),(fun _ _ _ _ _ _=>rfl)⟩
theorem Fz (γ:Bool) (st:St) (cs:List AV):bldR γ st [] cs=.ok True (.agg cs):=(rfl)
theorem Fy (γ:Bool) (st:St) (o n:Nat) (x:AE) (r:List (Nat×Nat×AE)) (cs:List AV) :
    bldR γ st ((o,n,x)::r) cs=andR (az γ (ev st x)) (andR (γ=true→ba (stripV (ev st x))=true∧(cellsOf (stripV (ev st x))).length=n∧o+n≤cs.length) (bldR γ st r (cs.take o++cellsOf (stripV (ev st x))++cs.drop (o+n)))):=(rfl)
theorem D8 (γ:Bool) (st:St) (z:List AV) (ps:List (Nat×Nat×AE)):avalR γ st (.cM z ps)=bldR γ st ps z:=(rfl)
theorem Eb (γ:Bool) (st:St) (len sz:Nat) (x i:AE):avalR γ st (.ee len sz x i)=andR (az γ (ev st x)) (andR (az γ (ev st i)) (idxPR γ len sz (stripV (ev st x)) (stripV (ev st i)))):=(rfl)
theorem Ec (γ:Bool) (st:St) (len:Nat) (x i:AE):avalR γ st (.lB len x i)=andR (az γ (ev st x)) (andR (az γ (ev st i)) (idxVR γ len (stripV (ev st x)) (stripV (ev st i)))):=(rfl)
theorem Ej (γ:Bool) (st:St) (neg:Bool) (x:AE):avalR γ st (.jP neg x)=andR (az γ (ev st x)) (snilR γ st neg (stripV (ev st x))):=(rfl)
theorem QH (γ:Bool) (len sz:Nat) (cs:List AV) (k:IntKind) (i:Int):idxPR γ len sz (.au (.agg cs)) (.int k i)=.ok ((γ=true→0≤i∧i<len∧i<cs.length)∧sz=1∧isCell (cs.getD i.toNat .undef)=true) (.au (cs.getD i.toNat .undef)):=(rfl)
theorem QI (γ:Bool) (len sz id f:Nat) (k:IntKind) (i:Int):idxPR γ len sz (.ab id f) (.int k i)=.ok (γ=true→0≤i∧i<len) (.ab id (f+i.toNat*sz)):=(rfl)
theorem QL (γ:Bool) (len:Nat) (cs:List AV) (k:IntKind) (i:Int):idxVR γ len (.agg cs) (.int k i)=.ok (γ=true→0≤i∧i<len∧i<cs.length) (cs.getD i.toNat .undef):=(rfl)
theorem aqz (γ neg:Bool) (n sz:Nat) (es:List AV):qc γ neg n (some (.arr sz es))=.ok (γ=true→0<n) (.bool neg):=(rfl)
theorem Ed (γ:Bool) (st:St) (neg:Bool) (x:AE):avalR γ st (.lD neg x)=andR (az γ (ev st x)) (inilR γ neg (stripV (ev st x))):=(rfl)
theorem Ef (γ:Bool) (st:St) (t:TypeId) (x:AE):avalR γ st (.pE t x)=andR (az γ (ev st x)) (mkiR t (stripV (ev st x))):=(rfl)
theorem D9 (γ:Bool) (st:St) (x:AE):avalR γ st (.ou x)=andR (az γ (ev st x)) (ov (stripV (ev st x))):=(rfl)
def kx (st:St):List AE→List AV
 | []=>[]
 | x::r=>ev st x::kx st r
theorem yv (st:St):∀l,l.map (ev st)=kx st l
 | []=>rfl
 | x::r=>by rw[List.map_cons,yv st r];rfl
theorem ZJ (st:St):kx st []=[]∧(∀x r,kx st (x::r)=ev st x::kx st r):=⟨rfl,fun _ _=>rfl⟩
theorem atg:kU []=true∧(∀i f r,kU (.ab i f::r)=kU r):=⟨rfl,fun _ _ _=>rfl⟩
theorem Ee (γ:Bool) (st:St) (f:Nat) (xs:List AE):avalR γ st (.pD f xs)=.ok (kU (kx st xs)=true) (.aK f (kx st xs)):=by rw[←yv];rfl
theorem V5 (f:Nat) (cs:List AV) (a:AV):keep1 (.aK f cs) a=[]:=(rfl)
theorem V7 (p f g:Nat) (cs:List AV):keep1 (.ab p f) (.aK g cs)=[]:=(rfl)
theorem EL (s:List (Nat×AV)) (h:HP) (k0 f:Nat) (cs:List AV):back1 s h k0 (.aK f cs)=[]:=(rfl)
theorem Iu (k:IntKind) (n:Int):ov (.int k n)=.ok True (.str (Utf8.encode n).data.toList):=(rfl)
theorem ZS (t:TypeId):mkiR t (.agg [])=.ok True (.lit (.iface t (.agg #[]))):=(rfl)
theorem ZR (t:TypeId) (k:IntKind) (n:Int):mkiR t (.int k n)=.ok True (.lit (.iface t (.int k n))):=(rfl)
theorem ZU (id:Nat) (st:St) (sz bytes:Nat) (z:List AV) (n m:Int):mksR id st sz bytes z (.int .i64 n) (.int .i64 m)=.ok (0≤n∧m=n∧n≤16777216∧n*bytes≤16777216∧z.all noRefC=true∧z.length=sz) (.sl id 0 n.toNat) (bZ st id (.arr sz (List.replicate n.toNat (packC z)))):=(rfl)
theorem Eh (γ:Bool) (st:St) (neg:Bool) (x:AE):avalR γ st (.mP neg x)=andR (az γ (ev st x)) (pnilR neg (stripV (ev st x))):=(rfl)
theorem abR (neg:Bool) (x:AV):pnilR neg (.au x)=.ok True (.bool neg):=(rfl)
theorem abT (neg:Bool) (i f:Nat):pnilR neg (.ab i f)=.ok True (.bool neg):=(rfl)
theorem abS (neg:Bool):pnilR neg (.lit (.pointer none))=.ok True (.bool (!neg)):=(rfl)
theorem Sb (γ neg:Bool):inilR γ neg (.lit .nilIface)=.ok True (.bool (if neg then false else true)):=by cases neg<;>simp[inilR,isNilV,isIfV]
theorem Sa (γ neg:Bool) (t:TypeId) (v:Value):inilR γ neg (.lit (.iface t v))=.ok True (.bool (if neg then true else false)):=by cases neg<;>simp[inilR,isNilV,isIfV]
theorem Eg (γ:Bool) (st:St) kd ok z (x i:AE):avalR γ st (.mH kd ok z x i)=andR (az γ (ev st x)) (andR (az γ (ev st i)) (mlkR st kd ok z (stripV (ev st x)) (stripV (ev st i)))):=(rfl)
theorem ZQ (l:List UInt8):mkOf (.str l)=some (.s l):=(rfl)
theorem ZP (k:IntKind) (n:Int):mkOf (.int k n)=some (.i k n):=(rfl)
theorem ZY (st:St) kd ok z id i f (x:AV):mlkR st kd ok z (.ptr id i f) x=mlkK st kd ok z id (mkOf x):=(rfl)
theorem ZW (st:St) kd ok z id k:mlkK st kd ok z id (some k)=mlkW kd ok z k (hget st.h id):=(rfl)
theorem ZZ kd ok z k kd' (l:List (MK×AV)):mlkW kd ok z k (some (.mp kd' l))=.ok (kd'=kd∧MK.ok kd k) (mI ok z (mfind l k)):=(rfl)
theorem Z5 (z:AV) (o:Option AV):mI true z o=.aj [o.getD z,.bool o.isSome]:=(rfl)
theorem Z4 (z:AV) (o:Option AV):mI false z o=o.getD z:=(rfl)
theorem CG (b:List UInt8):MK.ok none (.s b)=True:=(rfl)
theorem CF (k k':IntKind) (n:Int):MK.ok (some k) (.i k' n)=(k'=k):=(rfl)
theorem Z7 (st:St) kd id i f (k v:AV):mupR st kd (.ptr id i f) k v=mupK st id kd (mkOf k) v:=(rfl)
theorem Z6 (st:St) id kd k (v:AV):mupK st id kd (some k) v=mupW st id kd k v (hget st.h id):=(rfl)
theorem Z8 (st:St) id kd k (v:AV) kd' (l:List (MK×AV)):mupW st id kd k v (some (.mp kd' l))=.ok (kd'=kd∧MK.ok kd k∧bP v=true) .undef ⟨st.s,bX st.h id (.mp kd (mput l k v))⟩:=(rfl)
theorem JQ (id:Nat) (st:St) kd:effR id st (.ky kd)=.ok True (.ptr id 0 0) (bZ st id (.mp kd [])):=(rfl)
theorem JR (id:Nat) (st:St) kd x k v:effR id st (.lG kd x k v)=mupR st kd (ev st x) (ev st k) (ev st v):=(rfl)
theorem aqy :
 (∀(γ:Bool) (st:St) (neg:Bool),snilR γ st neg (.al)=.ok True (.bool (!neg))) ∧
 (∀(γ:Bool) (st:St) (neg:Bool) id o n,snilR γ st neg (.sl id o n)=qc γ neg n (hget st.h id)) ∧
 (∀(γ:Bool) (st:St) (neg:Bool) sz es,snilR γ st neg (.ro sz es)=.ok (γ=true→0<es.length∧0<sz) (.bool neg)):=
 ⟨(fun _ _ _=>rfl),(fun _ _ _ _ _ _=>rfl),(fun _ _ _ _ _=>rfl)⟩
theorem Wh :
 (∀(st:St) (id:Nat) (o:Nat) (n:Nat) sz es,keepSl st id o n (some (.arr sz es))=.ok True (.ro sz (aL es o n)) (freeze st id)):=
 (fun _ _ _ _ _ _=>rfl)
theorem alI :
 (∀(c:Prop) (v:AV) d vs st,rl2 c v (.ok d vs st)=.ok (c∧d) (v::vs) st) ∧
 (∀(c:Prop) (v:AV),rl2 c v (.fail)=.fail):=
 ⟨(fun _ _ _ _ _=>rfl),(fun _ _=>rfl)⟩
theorem alH :
 (∀(r:List AE) c v st1,tb r (.ok c v st1)=rl2 c v (keepLR r st1)) ∧
 (∀(r:List AE),tb r (.fail)=.fail):=
 ⟨(fun _ _ _ _=>rfl),(fun _=>rfl)⟩
theorem GS :
 (∀(id:Nat) (sz:Nat) c es st',mg id sz (.ok c es st')=.ok (c∧es.all (fun e=>(cellsOf e).length==sz)=true) (.sl id 0 es.length) (bZ st' id (.arr sz es))) ∧
 (∀(id:Nat) (sz:Nat),mg id sz (.fail)=.fail):=
 ⟨(fun _ _ _ _ _=>rfl),(fun _ _=>rfl)⟩
theorem DU :
 (∀(st:St) (sz:Nat) (bytes:Nat) (id:Nat) (off:Nat) (n:Nat) (xs:List AV) sz' es,nK st sz bytes id off n xs (some (.arr sz' es))=.ok (xs.all ba=true∧sz'=sz∧(aL es off n).all ba=true∧(n+xs.length)*bytes≤140737488355328∧n+xs.length≤9223372036854775807) (.sl id 0 (n+xs.length)) (bZ st id (.arr sz (aL es off n++xs)))):=
 (fun _ _ _ _ _ _ _ _ _=>rfl)
theorem DS :
 (∀(d:Nat) (st:St) (sz:Nat) (bytes:Nat) xs,appR d st sz bytes (.al) (some xs)=.ok (xs.all ba=true∧xs.length*bytes≤140737488355328∧xs.length≤9223372036854775807) (.sl d 0 xs.length) (bZ st d (.arr sz xs))) ∧
 (∀(d:Nat) (st:St) (sz:Nat) (bytes:Nat) xs id off n,appR d st sz bytes (.sl id off n) (some xs)=nK st sz bytes id off n xs (hget st.h id)):=
 ⟨(fun _ _ _ _ _=>rfl),(fun _ _ _ _ _ _ _ _=>rfl)⟩
theorem aqZ :
 (∀(st:St) (n:Nat) (id:Nat) (i:Nat) (f:Nat) (v:AV) sz es,qg st n id i f v (some (.arr sz es))=.ok ((cellsOf v).length=n∧0<n∧f+n≤sz) .undef ⟨st.s,bX st.h id (.arr sz (es.set i (ia (nth es i) f v)))⟩):=
 (fun _ _ _ _ _ _ _ _=>rfl)
theorem aqT :
 (∀(n:Nat) (id:Nat) (i:Nat) (f:Nat) (c:Prop) (v:AV) (st:St) d u st',nn n id i f c v st (.ok d u st')=.ok (c∧d) u st') ∧
 (∀(n:Nat) (id:Nat) (i:Nat) (f:Nat) (c:Prop) (v:AV) (st:St),nn n id i f c v st (.fail)=.fail):=
 ⟨(fun _ _ _ _ _ _ _ _ _ _=>rfl),(fun _ _ _ _ _ _ _=>rfl)⟩
theorem aqU :
 (∀(n:Nat) (id:Nat) (i:Nat) (f:Nat) c v st,nk n id i f (.ok c v st)=nn n id i f c v st (qg st n id i f v (hget st.h id))) ∧
 (∀(n:Nat) (id:Nat) (i:Nat) (f:Nat),nk n id i f (.fail)=.fail):=
 ⟨(fun _ _ _ _ _ _ _=>rfl),(fun _ _ _ _=>rfl)⟩
theorem aqY :
 (∀(st:St) (n:Nat) (id:Nat) (f:Nat) (v:AV) cs,stV st n id f v (some (.var cs))=.ok (ba v=true∧(cellsOf v).length=n∧f+n≤cs.length) .undef ⟨st.s,bX st.h id (.var (dm cs f (cellsOf v)))⟩):=
 (fun _ _ _ _ _ _=>rfl)
theorem aqW :
 (∀(st:St) (n:Nat) (v:AV) id i f,stR st n (.ptr id i f) v=nk n id i f (keepR st v)) ∧
 (∀(st:St) (n:Nat) (v:AV) id f,stR st n (.ab id f) v=stV st n id f v (hget st.h id)):=
 ⟨(fun _ _ _ _ _ _=>rfl),(fun _ _ _ _ _=>rfl)⟩
theorem aq4 :
 (∀(st:St) (id:Nat) l,stbR st id (.str l)=.ok True (.sl id 0 l.length) (bZ st id (.arr 1 (l.map ub)))):=
 (fun _ _ _=>rfl)
theorem JP :
 (∀(id:Nat) (st:St) z,effR id st (.alloc z)=.ok (z.all noRefC=true) (.ab id 0) (bZ st id (.var (z.map (killC id))))) ∧
 (∀(id:Nat) (st:St) n x,effR id st (.box n x)=.ok (ba (ev st x)=true∧(cellsOf (ev st x)).length=n) (.ab id 0) (bZ st id (.var ((cellsOf (ev st x)).map (killC id))))) ∧
 (∀(id:Nat) (st:St) sz xs,effR id st (.a8 sz xs)=mg id sz (keepLR xs st)) ∧
 (∀(id:Nat) (st:St) sz bytes s x,effR id st (.app sz bytes s x)=appR id st sz bytes (ev st s) (srcE sz st (ev st x))) ∧
 (∀(id:Nat) (st:St) n x v,effR id st (.st n x v)=stR st n (ev st x) (ev st v)) ∧
 (∀(id:Nat) (st:St) sz b z l c,effR id st (.jG sz b z l c)=mksR id st sz b z (ev st l) (ev st c)) ∧
 (∀(id:Nat) (st:St) x,effR id st (.kO x)=stbR st id (ev st x)):=
 ⟨(fun _ _ _=>rfl),(fun _ _ _ _=>rfl),(fun _ _ _ _=>rfl),(fun _ _ _ _ _ _=>rfl),(fun _ _ _ _ _=>rfl),(fun _ _ _ _ _ _ _=>rfl),(fun _ _ _=>rfl)⟩
attribute [go_sem] Eh abR abT abS Eg ZQ ZP ZY ZW ZZ Z5 Z4 CG CF Z7 Z6 Z8 JQ JR Option.isSome_some Option.isSome_none Option.getD_some Option.getD_none ZJ atg Ee V5 V7 EL Kk abY Mn aah Wr L5 ak5 V0 RJ K2 RH KX aad aaN ak4 ak3 aqX aqS aqR QO QN apl VY V8 V9 Wa V6 EH ER EN EP EM Dl aqN apk Hc aol abr abH abI Wg Dy Se arb K0 Ix Fs EU Kg Rq Kd Ki Kh Kf Ke Dh D7 ase It HK Hy Io GV Im akV RE Ya Z2 Kl aaj QM QK ao5 XY XR XW XV EE EF EG Gi apt apr apo apq aps apn Ld Lb La Lc Ea Fz Fy D8 Eb Ec Ej QI QH QL aqz aqy Ed Sb Sa Ef ZS ZR ZU D9 Iu Wh alI alH GS DU DS aqZ aqT aqU aqY aqW aq4 JP Ir Iq aoo aon Gw We Wd Gx Wj Wi Ws LV LU L6 ak2 ak1 ak6 V4 V3 VZ GA GB ET Gt Gy aak KW Uc aam aal KU K1 Lk Lj KY RG RF RI arh arf
end Go.Proofs.YtlkmppkcbhodaaaGreatDoor.Eng
