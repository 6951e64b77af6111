/- The proof, part 7 of 32. -/
import Derived.Test.YthmkimlfnkghmaaGreatDoorOdbUniqueF
set_option linter.all false
namespace Go.Proofs.YthmkimlfnkghmaaGreatDoor.Eng
def cu (b:Bool) (x:AV):AV:=match b with
 | true=>.undef
 | false=>x
def selB (b:Bool) (x y:AV):AV:=match b with
 | true=>x
 | false=>y
theorem ite_cu {i j:Nat} {x:AV}:(if i=j then AV.undef else x)=cu (i==j) x:=by
 by_cases h:i=j
 ·subst h;rw[if_pos rfl,show(i==i)=true by simp];rfl
 ·rw[if_neg h,show(i==j)=false by simp[h]];rfl
theorem ite_selB {i j:Nat} {x y:AV}:(if i=j then x else y)=selB (i==j) x y:=by
 by_cases h:i=j
 ·subst h;rw[if_pos rfl,show(i==i)=true by simp];rfl
 ·rw[if_neg h,show(i==j)=false by simp[h]];rfl
theorem iteb_cu {b:Bool} {x:AV}:(if b=true then AV.undef else x)=cu b x:=by cases b<;>rfl
theorem iteb_selB {b:Bool} {x y:AV}:(if b=true then x else y)=selB b x y:=by cases b<;>rfl
theorem cu_t {x:AV}:cu true x=.undef:=(rfl)
theorem cu_f {x:AV}:cu false x=x:=(rfl)
theorem selB_t {x y:AV}:selB true x y=x:=(rfl)
theorem selB_f {x y:AV}:selB false x y=y:=(rfl)
def borSl (W:Option Win) (o n:Nat):AV:=match W with
 | some (.arr sz es)=>.ro sz (sub3 es o n)
 | _=>.undef
theorem borSl_some {sz o n:Nat} {es:List AV}:borSl (some (.arr sz es)) o n=.ro sz (sub3 es o n):=(rfl)
def keepO (W:Option Win) (x y:AV):AV:=match W with
 | some _=>x
 | none=>y
theorem keepO_some {W:Win} {x y:AV}:keepO (some W) x y=x:=(rfl)
theorem keepO_none {x y:AV}:keepO none x y=y:=(rfl)
def borV (h0 h:HP) (W:Option Win) (f:Nat):AV:=match W,f with
 | some (.var cs),0=>.elt (packC (cs.map (bcell h0 h)))
 | _,_=>.undef
theorem borV_some {h0 h:HP} {cs:List AV}:borV h0 h (some (.var cs)) 0=.elt (packC (cs.map (bcell h0 h))):=(rfl)
theorem killC_eqs (id:Nat) :
 (killC id AV.undef=AV.undef) ∧
 (∀(b:Bool),killC id (.bool b)=(.bool b)) ∧
 (∀(k:IntKind) (n:Int),killC id (.int k n)=(.int k n)) ∧
 (∀(k:FloatKind) (n:Nat),killC id (.fl k n)=(.fl k n)) ∧
 (∀(k:FloatKind) (a b:Nat),killC id (.cx k a b)=(.cx k a b)) ∧
 (∀(l:List UInt8),killC id (.str l)=(.str l)) ∧
 (∀(x:Value),killC id (.lit x)=(.lit x)) ∧
 (killC id AV.nilsl=AV.nilsl) ∧
 (∀(sz0:Nat) (es0:List AV),killC id (.ro sz0 es0)=(.ro sz0 es0)) ∧
 (∀(x:AV),killC id (.elt x)=(.elt x)) ∧
 (∀(i o n:Nat),killC id (.sl i o n)=cu (i==id) (.sl i o n)) ∧
 (∀(i j f:Nat),killC id (.ptr i j f)=cu (i==id) (.ptr i j f)) ∧
 (∀(i f:Nat),killC id (.vptr i f)=cu (i==id) (.vptr i f)) ∧
 (∀(cs:List AV),killC id (.agg cs)=AV.undef) ∧
 (∀(cs:List AV),killC id (.tup cs)=AV.undef) ∧
 (∀(b:Bool) (x:AV),killC id (.gd b x)=AV.undef) ∧
 (∀(f:Nat) (cs:List AV),killC id (.clo f cs)=AV.undef):=
 ⟨rfl,fun _=>rfl,fun _ _=>rfl,fun _ _=>rfl,fun _ _ _=>rfl,fun _=>rfl,fun _=>rfl,rfl,fun _ _=>rfl,fun _=>rfl,fun _ _ _=>ite_cu,fun _ _ _=>ite_cu,fun _ _=>ite_cu,fun _=>rfl,fun _=>rfl,fun _ _=>rfl,fun _ _=>rfl⟩
theorem killA_eqs (id:Nat) :
 (killA id AV.undef=AV.undef) ∧
 (∀(b:Bool),killA id (.bool b)=(.bool b)) ∧
 (∀(k:IntKind) (n:Int),killA id (.int k n)=(.int k n)) ∧
 (∀(k:FloatKind) (n:Nat),killA id (.fl k n)=(.fl k n)) ∧
 (∀(k:FloatKind) (a b:Nat),killA id (.cx k a b)=(.cx k a b)) ∧
 (∀(l:List UInt8),killA id (.str l)=(.str l)) ∧
 (∀(x:Value),killA id (.lit x)=(.lit x)) ∧
 (killA id AV.nilsl=AV.nilsl) ∧
 (∀(sz0:Nat) (es0:List AV),killA id (.ro sz0 es0)=(.ro sz0 es0)) ∧
 (∀(x:AV),killA id (.elt x)=(.elt x)) ∧
 (∀(i o n:Nat),killA id (.sl i o n)=cu (i==id) (.sl i o n)) ∧
 (∀(i j f:Nat),killA id (.ptr i j f)=cu (i==id) (.ptr i j f)) ∧
 (∀(i f:Nat),killA id (.vptr i f)=cu (i==id) (.vptr i f)) ∧
 (∀(cs:List AV),killA id (.agg cs)=.agg (cs.map (killC id))) ∧
 (∀(cs:List AV),killA id (.tup cs)=AV.undef) ∧
 (∀(b:Bool) (x:AV),killA id (.gd b x)=AV.undef) ∧
 (∀(f:Nat) (cs:List AV),killA id (.clo f cs)=.clo f (cs.map (killC id))):=
 ⟨rfl,fun _=>rfl,fun _ _=>rfl,fun _ _=>rfl,fun _ _ _=>rfl,fun _=>rfl,fun _=>rfl,rfl,fun _ _=>rfl,fun _=>rfl,fun _ _ _=>ite_cu,fun _ _ _=>ite_cu,fun _ _=>ite_cu,fun _=>rfl,fun _=>rfl,fun _ _=>rfl,fun _ _=>rfl⟩
theorem kill_eqs (id:Nat) :
 (kill id AV.undef=AV.undef) ∧
 (∀(b:Bool),kill id (.bool b)=(.bool b)) ∧
 (∀(k:IntKind) (n:Int),kill id (.int k n)=(.int k n)) ∧
 (∀(k:FloatKind) (n:Nat),kill id (.fl k n)=(.fl k n)) ∧
 (∀(k:FloatKind) (a b:Nat),kill id (.cx k a b)=(.cx k a b)) ∧
 (∀(l:List UInt8),kill id (.str l)=(.str l)) ∧
 (∀(x:Value),kill id (.lit x)=(.lit x)) ∧
 (kill id AV.nilsl=AV.nilsl) ∧
 (∀(sz0:Nat) (es0:List AV),kill id (.ro sz0 es0)=(.ro sz0 es0)) ∧
 (∀(x:AV),kill id (.elt x)=(.elt x)) ∧
 (∀(i o n:Nat),kill id (.sl i o n)=cu (i==id) (.sl i o n)) ∧
 (∀(i j f:Nat),kill id (.ptr i j f)=cu (i==id) (.ptr i j f)) ∧
 (∀(i f:Nat),kill id (.vptr i f)=cu (i==id) (.vptr i f)) ∧
 (∀(cs:List AV),kill id (.agg cs)=.agg (cs.map (killC id))) ∧
 (∀(cs:List AV),kill id (.tup cs)=.tup (cs.map (killA id))) ∧
 (∀(b:Bool) (x:AV),kill id (.gd b x)=.gd b (killA id x)) ∧
 (∀(f:Nat) (cs:List AV),kill id (.clo f cs)=.clo f (cs.map (killC id))):=
 ⟨rfl,fun _=>rfl,fun _ _=>rfl,fun _ _=>rfl,fun _ _ _=>rfl,fun _=>rfl,fun _=>rfl,rfl,fun _ _=>rfl,fun _=>rfl,fun _ _ _=>ite_cu,fun _ _ _=>ite_cu,fun _ _=>ite_cu,fun _=>rfl,fun _=>rfl,fun _ _=>rfl,fun _ _=>rfl⟩
theorem frzC_eqs (id sz:Nat) (es:List AV) :
 (frzC id sz es AV.undef=AV.undef) ∧
 (∀(b:Bool),frzC id sz es (.bool b)=(.bool b)) ∧
 (∀(k:IntKind) (n:Int),frzC id sz es (.int k n)=(.int k n)) ∧
 (∀(k:FloatKind) (n:Nat),frzC id sz es (.fl k n)=(.fl k n)) ∧
 (∀(k:FloatKind) (a b:Nat),frzC id sz es (.cx k a b)=(.cx k a b)) ∧
 (∀(l:List UInt8),frzC id sz es (.str l)=(.str l)) ∧
 (∀(x:Value),frzC id sz es (.lit x)=(.lit x)) ∧
 (frzC id sz es AV.nilsl=AV.nilsl) ∧
 (∀(sz0:Nat) (es0:List AV),frzC id sz es (.ro sz0 es0)=(.ro sz0 es0)) ∧
 (∀(x:AV),frzC id sz es (.elt x)=(.elt x)) ∧
 (∀(i o n:Nat),frzC id sz es (.sl i o n)=selB (i==id) (.ro sz (sub3 es o n)) (.sl i o n)) ∧
 (∀(i j f:Nat),frzC id sz es (.ptr i j f)=cu (i==id) (.ptr i j f)) ∧
 (∀(i f:Nat),frzC id sz es (.vptr i f)=cu (i==id) (.vptr i f)) ∧
 (∀(cs:List AV),frzC id sz es (.agg cs)=AV.undef) ∧
 (∀(cs:List AV),frzC id sz es (.tup cs)=AV.undef) ∧
 (∀(b:Bool) (x:AV),frzC id sz es (.gd b x)=AV.undef) ∧
 (∀(f:Nat) (cs:List AV),frzC id sz es (.clo f cs)=AV.undef):=
 ⟨rfl,fun _=>rfl,fun _ _=>rfl,fun _ _=>rfl,fun _ _ _=>rfl,fun _=>rfl,fun _=>rfl,rfl,fun _ _=>rfl,fun _=>rfl,fun _ _ _=>ite_selB,fun _ _ _=>ite_cu,fun _ _=>ite_cu,fun _=>rfl,fun _=>rfl,fun _ _=>rfl,fun _ _=>rfl⟩
theorem frzA_eqs (id sz:Nat) (es:List AV) :
 (frzA id sz es AV.undef=AV.undef) ∧
 (∀(b:Bool),frzA id sz es (.bool b)=(.bool b)) ∧
 (∀(k:IntKind) (n:Int),frzA id sz es (.int k n)=(.int k n)) ∧
 (∀(k:FloatKind) (n:Nat),frzA id sz es (.fl k n)=(.fl k n)) ∧
 (∀(k:FloatKind) (a b:Nat),frzA id sz es (.cx k a b)=(.cx k a b)) ∧
 (∀(l:List UInt8),frzA id sz es (.str l)=(.str l)) ∧
 (∀(x:Value),frzA id sz es (.lit x)=(.lit x)) ∧
 (frzA id sz es AV.nilsl=AV.nilsl) ∧
 (∀(sz0:Nat) (es0:List AV),frzA id sz es (.ro sz0 es0)=(.ro sz0 es0)) ∧
 (∀(x:AV),frzA id sz es (.elt x)=(.elt x)) ∧
 (∀(i o n:Nat),frzA id sz es (.sl i o n)=selB (i==id) (.ro sz (sub3 es o n)) (.sl i o n)) ∧
 (∀(i j f:Nat),frzA id sz es (.ptr i j f)=cu (i==id) (.ptr i j f)) ∧
 (∀(i f:Nat),frzA id sz es (.vptr i f)=cu (i==id) (.vptr i f)) ∧
 (∀(cs:List AV),frzA id sz es (.agg cs)=.agg (cs.map (frzC id sz es))) ∧
 (∀(cs:List AV),frzA id sz es (.tup cs)=AV.undef) ∧
 (∀(b:Bool) (x:AV),frzA id sz es (.gd b x)=AV.undef) ∧
 (∀(f:Nat) (cs:List AV),frzA id sz es (.clo f cs)=.clo f (cs.map (frzC id sz es))):=
 ⟨rfl,fun _=>rfl,fun _ _=>rfl,fun _ _=>rfl,fun _ _ _=>rfl,fun _=>rfl,fun _=>rfl,rfl,fun _ _=>rfl,fun _=>rfl,fun _ _ _=>ite_selB,fun _ _ _=>ite_cu,fun _ _=>ite_cu,fun _=>rfl,fun _=>rfl,fun _ _=>rfl,fun _ _=>rfl⟩
theorem frz_eqs (id sz:Nat) (es:List AV) :
 (frz id sz es AV.undef=AV.undef) ∧
 (∀(b:Bool),frz id sz es (.bool b)=(.bool b)) ∧
 (∀(k:IntKind) (n:Int),frz id sz es (.int k n)=(.int k n)) ∧
 (∀(k:FloatKind) (n:Nat),frz id sz es (.fl k n)=(.fl k n)) ∧
 (∀(k:FloatKind) (a b:Nat),frz id sz es (.cx k a b)=(.cx k a b)) ∧
 (∀(l:List UInt8),frz id sz es (.str l)=(.str l)) ∧
 (∀(x:Value),frz id sz es (.lit x)=(.lit x)) ∧
 (frz id sz es AV.nilsl=AV.nilsl) ∧
 (∀(sz0:Nat) (es0:List AV),frz id sz es (.ro sz0 es0)=(.ro sz0 es0)) ∧
 (∀(x:AV),frz id sz es (.elt x)=(.elt x)) ∧
 (∀(i o n:Nat),frz id sz es (.sl i o n)=selB (i==id) (.ro sz (sub3 es o n)) (.sl i o n)) ∧
 (∀(i j f:Nat),frz id sz es (.ptr i j f)=cu (i==id) (.ptr i j f)) ∧
 (∀(i f:Nat),frz id sz es (.vptr i f)=cu (i==id) (.vptr i f)) ∧
 (∀(cs:List AV),frz id sz es (.agg cs)=.agg (cs.map (frzC id sz es))) ∧
 (∀(cs:List AV),frz id sz es (.tup cs)=.tup (cs.map (frzA id sz es))) ∧
 (∀(b:Bool) (x:AV),frz id sz es (.gd b x)=.gd b (frzA id sz es x)) ∧
 (∀(f:Nat) (cs:List AV),frz id sz es (.clo f cs)=.clo f (cs.map (frzC id sz es))):=
 ⟨rfl,fun _=>rfl,fun _ _=>rfl,fun _ _=>rfl,fun _ _ _=>rfl,fun _=>rfl,fun _=>rfl,rfl,fun _ _=>rfl,fun _=>rfl,fun _ _ _=>ite_selB,fun _ _ _=>ite_cu,fun _ _=>ite_cu,fun _=>rfl,fun _=>rfl,fun _ _=>rfl,fun _ _=>rfl⟩
theorem renC_eqs (id id':Nat) :
 (renC id id' AV.undef=AV.undef) ∧
 (∀(b:Bool),renC id id' (.bool b)=(.bool b)) ∧
 (∀(k:IntKind) (n:Int),renC id id' (.int k n)=(.int k n)) ∧
 (∀(k:FloatKind) (n:Nat),renC id id' (.fl k n)=(.fl k n)) ∧
 (∀(k:FloatKind) (a b:Nat),renC id id' (.cx k a b)=(.cx k a b)) ∧
 (∀(l:List UInt8),renC id id' (.str l)=(.str l)) ∧
 (∀(x:Value),renC id id' (.lit x)=(.lit x)) ∧
 (renC id id' AV.nilsl=AV.nilsl) ∧
 (∀(sz0:Nat) (es0:List AV),renC id id' (.ro sz0 es0)=(.ro sz0 es0)) ∧
 (∀(x:AV),renC id id' (.elt x)=(.elt x)) ∧
 (∀(i o n:Nat),renC id id' (.sl i o n)=.sl (rn id id' i) o n) ∧
 (∀(i j f:Nat),renC id id' (.ptr i j f)=.ptr (rn id id' i) j f) ∧
 (∀(i f:Nat),renC id id' (.vptr i f)=.vptr (rn id id' i) f) ∧
 (∀(cs:List AV),renC id id' (.agg cs)=AV.undef) ∧
 (∀(cs:List AV),renC id id' (.tup cs)=AV.undef) ∧
 (∀(b:Bool) (x:AV),renC id id' (.gd b x)=AV.undef) ∧
 (∀(f:Nat) (cs:List AV),renC id id' (.clo f cs)=AV.undef):=
 ⟨rfl,fun _=>rfl,fun _ _=>rfl,fun _ _=>rfl,fun _ _ _=>rfl,fun _=>rfl,fun _=>rfl,rfl,fun _ _=>rfl,fun _=>rfl,fun _ _ _=>rfl,fun _ _ _=>rfl,fun _ _=>rfl,fun _=>rfl,fun _=>rfl,fun _ _=>rfl,fun _ _=>rfl⟩
theorem renA_eqs (id id':Nat) :
 (renA id id' AV.undef=AV.undef) ∧
 (∀(b:Bool),renA id id' (.bool b)=(.bool b)) ∧
 (∀(k:IntKind) (n:Int),renA id id' (.int k n)=(.int k n)) ∧
 (∀(k:FloatKind) (n:Nat),renA id id' (.fl k n)=(.fl k n)) ∧
 (∀(k:FloatKind) (a b:Nat),renA id id' (.cx k a b)=(.cx k a b)) ∧
 (∀(l:List UInt8),renA id id' (.str l)=(.str l)) ∧
 (∀(x:Value),renA id id' (.lit x)=(.lit x)) ∧
 (renA id id' AV.nilsl=AV.nilsl) ∧
 (∀(sz0:Nat) (es0:List AV),renA id id' (.ro sz0 es0)=(.ro sz0 es0)) ∧
 (∀(x:AV),renA id id' (.elt x)=(.elt x)) ∧
 (∀(i o n:Nat),renA id id' (.sl i o n)=.sl (rn id id' i) o n) ∧
 (∀(i j f:Nat),renA id id' (.ptr i j f)=.ptr (rn id id' i) j f) ∧
 (∀(i f:Nat),renA id id' (.vptr i f)=.vptr (rn id id' i) f) ∧
 (∀(cs:List AV),renA id id' (.agg cs)=.agg (cs.map (renC id id'))) ∧
 (∀(cs:List AV),renA id id' (.tup cs)=AV.undef) ∧
 (∀(b:Bool) (x:AV),renA id id' (.gd b x)=AV.undef) ∧
 (∀(f:Nat) (cs:List AV),renA id id' (.clo f cs)=.clo f (cs.map (renC id id'))):=
 ⟨rfl,fun _=>rfl,fun _ _=>rfl,fun _ _=>rfl,fun _ _ _=>rfl,fun _=>rfl,fun _=>rfl,rfl,fun _ _=>rfl,fun _=>rfl,fun _ _ _=>rfl,fun _ _ _=>rfl,fun _ _=>rfl,fun _=>rfl,fun _=>rfl,fun _ _=>rfl,fun _ _=>rfl⟩
theorem renX_eqs (id id':Nat) :
 (renX id id' AV.undef=AV.undef) ∧
 (∀(b:Bool),renX id id' (.bool b)=(.bool b)) ∧
 (∀(k:IntKind) (n:Int),renX id id' (.int k n)=(.int k n)) ∧
 (∀(k:FloatKind) (n:Nat),renX id id' (.fl k n)=(.fl k n)) ∧
 (∀(k:FloatKind) (a b:Nat),renX id id' (.cx k a b)=(.cx k a b)) ∧
 (∀(l:List UInt8),renX id id' (.str l)=(.str l)) ∧
 (∀(x:Value),renX id id' (.lit x)=(.lit x)) ∧
 (renX id id' AV.nilsl=AV.nilsl) ∧
 (∀(sz0:Nat) (es0:List AV),renX id id' (.ro sz0 es0)=(.ro sz0 es0)) ∧
 (∀(x:AV),renX id id' (.elt x)=(.elt x)) ∧
 (∀(i o n:Nat),renX id id' (.sl i o n)=.sl (rn id id' i) o n) ∧
 (∀(i j f:Nat),renX id id' (.ptr i j f)=.ptr (rn id id' i) j f) ∧
 (∀(i f:Nat),renX id id' (.vptr i f)=.vptr (rn id id' i) f) ∧
 (∀(cs:List AV),renX id id' (.agg cs)=.agg (cs.map (renC id id'))) ∧
 (∀(cs:List AV),renX id id' (.tup cs)=.tup (cs.map (renA id id'))) ∧
 (∀(b:Bool) (x:AV),renX id id' (.gd b x)=.gd b (renA id id' x)) ∧
 (∀(f:Nat) (cs:List AV),renX id id' (.clo f cs)=.clo f (cs.map (renC id id'))):=
 ⟨rfl,fun _=>rfl,fun _ _=>rfl,fun _ _=>rfl,fun _ _ _=>rfl,fun _=>rfl,fun _=>rfl,rfl,fun _ _=>rfl,fun _=>rfl,fun _ _ _=>rfl,fun _ _ _=>rfl,fun _ _=>rfl,fun _=>rfl,fun _=>rfl,fun _ _=>rfl,fun _ _=>rfl⟩
theorem kcI_eqs (ids keep:List Nat) :
 (kcI ids keep AV.undef=AV.undef) ∧
 (∀(b:Bool),kcI ids keep (.bool b)=(.bool b)) ∧
 (∀(k:IntKind) (n:Int),kcI ids keep (.int k n)=(.int k n)) ∧
 (∀(k:FloatKind) (n:Nat),kcI ids keep (.fl k n)=(.fl k n)) ∧
 (∀(k:FloatKind) (a b:Nat),kcI ids keep (.cx k a b)=(.cx k a b)) ∧
 (∀(l:List UInt8),kcI ids keep (.str l)=(.str l)) ∧
 (∀(x:Value),kcI ids keep (.lit x)=(.lit x)) ∧
 (kcI ids keep AV.nilsl=AV.nilsl) ∧
 (∀(sz0:Nat) (es0:List AV),kcI ids keep (.ro sz0 es0)=(.ro sz0 es0)) ∧
 (∀(x:AV),kcI ids keep (.elt x)=(.elt x)) ∧
 (∀(i o n:Nat),kcI ids keep (.sl i o n)=cu (memN i ids) (.sl i o n)) ∧
 (∀(i j f:Nat),kcI ids keep (.ptr i j f)=cu (memN i ids) (.ptr i j f)) ∧
 (∀(i f:Nat),kcI ids keep (.vptr i f)=selB (memN i keep) (.vptr i f) (cu (memN i ids) (.vptr i f))) ∧
 (∀(cs:List AV),kcI ids keep (.agg cs)=AV.undef) ∧
 (∀(cs:List AV),kcI ids keep (.tup cs)=AV.undef) ∧
 (∀(b:Bool) (x:AV),kcI ids keep (.gd b x)=AV.undef) ∧
 (∀(f:Nat) (cs:List AV),kcI ids keep (.clo f cs)=AV.undef):=
 ⟨rfl,fun _=>rfl,fun _ _=>rfl,fun _ _=>rfl,fun _ _ _=>rfl,fun _=>rfl,fun _=>rfl,rfl,fun _ _=>rfl,fun _=>rfl,fun _ _ _=>iteb_cu,fun _ _ _=>iteb_cu,fun _ _=>(by rw[←iteb_cu,←iteb_selB];rfl),fun _=>rfl,fun _=>rfl,fun _ _=>rfl,fun _ _=>rfl⟩
theorem kaI_eqs (ids keep:List Nat) :
 (kaI ids keep AV.undef=AV.undef) ∧
 (∀(b:Bool),kaI ids keep (.bool b)=(.bool b)) ∧
 (∀(k:IntKind) (n:Int),kaI ids keep (.int k n)=(.int k n)) ∧
 (∀(k:FloatKind) (n:Nat),kaI ids keep (.fl k n)=(.fl k n)) ∧
 (∀(k:FloatKind) (a b:Nat),kaI ids keep (.cx k a b)=(.cx k a b)) ∧
 (∀(l:List UInt8),kaI ids keep (.str l)=(.str l)) ∧
 (∀(x:Value),kaI ids keep (.lit x)=(.lit x)) ∧
 (kaI ids keep AV.nilsl=AV.nilsl) ∧
 (∀(sz0:Nat) (es0:List AV),kaI ids keep (.ro sz0 es0)=(.ro sz0 es0)) ∧
 (∀(x:AV),kaI ids keep (.elt x)=(.elt x)) ∧
 (∀(i o n:Nat),kaI ids keep (.sl i o n)=cu (memN i ids) (.sl i o n)) ∧
 (∀(i j f:Nat),kaI ids keep (.ptr i j f)=cu (memN i ids) (.ptr i j f)) ∧
 (∀(i f:Nat),kaI ids keep (.vptr i f)=selB (memN i keep) (.vptr i f) (cu (memN i ids) (.vptr i f))) ∧
 (∀(cs:List AV),kaI ids keep (.agg cs)=.agg (cs.map (kcI ids keep))) ∧
 (∀(cs:List AV),kaI ids keep (.tup cs)=AV.undef) ∧
 (∀(b:Bool) (x:AV),kaI ids keep (.gd b x)=AV.undef) ∧
 (∀(f:Nat) (cs:List AV),kaI ids keep (.clo f cs)=.clo f (cs.map (kcI ids keep))):=
 ⟨rfl,fun _=>rfl,fun _ _=>rfl,fun _ _=>rfl,fun _ _ _=>rfl,fun _=>rfl,fun _=>rfl,rfl,fun _ _=>rfl,fun _=>rfl,fun _ _ _=>iteb_cu,fun _ _ _=>iteb_cu,fun _ _=>(by rw[←iteb_cu,←iteb_selB];rfl),fun _=>rfl,fun _=>rfl,fun _ _=>rfl,fun _ _=>rfl⟩
theorem kI_eqs (ids keep:List Nat) :
 (kI ids keep AV.undef=AV.undef) ∧
 (∀(b:Bool),kI ids keep (.bool b)=(.bool b)) ∧
 (∀(k:IntKind) (n:Int),kI ids keep (.int k n)=(.int k n)) ∧
 (∀(k:FloatKind) (n:Nat),kI ids keep (.fl k n)=(.fl k n)) ∧
 (∀(k:FloatKind) (a b:Nat),kI ids keep (.cx k a b)=(.cx k a b)) ∧
 (∀(l:List UInt8),kI ids keep (.str l)=(.str l)) ∧
 (∀(x:Value),kI ids keep (.lit x)=(.lit x)) ∧
 (kI ids keep AV.nilsl=AV.nilsl) ∧
 (∀(sz0:Nat) (es0:List AV),kI ids keep (.ro sz0 es0)=(.ro sz0 es0)) ∧
 (∀(x:AV),kI ids keep (.elt x)=(.elt x)) ∧
 (∀(i o n:Nat),kI ids keep (.sl i o n)=cu (memN i ids) (.sl i o n)) ∧
 (∀(i j f:Nat),kI ids keep (.ptr i j f)=cu (memN i ids) (.ptr i j f)) ∧
 (∀(i f:Nat),kI ids keep (.vptr i f)=selB (memN i keep) (.vptr i f) (cu (memN i ids) (.vptr i f))) ∧
 (∀(cs:List AV),kI ids keep (.agg cs)=.agg (cs.map (kcI ids keep))) ∧
 (∀(cs:List AV),kI ids keep (.tup cs)=.tup (cs.map (kaI ids keep))) ∧
 (∀(b:Bool) (x:AV),kI ids keep (.gd b x)=.gd b (kaI ids keep x)) ∧
 (∀(f:Nat) (cs:List AV),kI ids keep (.clo f cs)=.clo f (cs.map (kcI ids keep))):=
 ⟨rfl,fun _=>rfl,fun _ _=>rfl,fun _ _=>rfl,fun _ _ _=>rfl,fun _=>rfl,fun _=>rfl,rfl,fun _ _=>rfl,fun _=>rfl,fun _ _ _=>iteb_cu,fun _ _ _=>iteb_cu,fun _ _=>(by rw[←iteb_cu,←iteb_selB];rfl),fun _=>rfl,fun _=>rfl,fun _ _=>rfl,fun _ _=>rfl⟩
theorem borrowC_eqs (h:HP) :
 (borrowC h AV.undef=AV.undef) ∧
 (∀(b:Bool),borrowC h (.bool b)=(.bool b)) ∧
 (∀(k:IntKind) (n:Int),borrowC h (.int k n)=(.int k n)) ∧
 (∀(k:FloatKind) (n:Nat),borrowC h (.fl k n)=(.fl k n)) ∧
 (∀(k:FloatKind) (a b:Nat),borrowC h (.cx k a b)=(.cx k a b)) ∧
 (∀(l:List UInt8),borrowC h (.str l)=(.str l)) ∧
 (∀(x:Value),borrowC h (.lit x)=(.lit x)) ∧
 (borrowC h AV.nilsl=AV.nilsl) ∧
 (∀(sz0:Nat) (es0:List AV),borrowC h (.ro sz0 es0)=(.ro sz0 es0)) ∧
 (∀(x:AV),borrowC h (.elt x)=(.elt x)) ∧
 (∀(i o n:Nat),borrowC h (.sl i o n)=borSl (hget h i) o n) ∧
 (∀(i j f:Nat),borrowC h (.ptr i j f)=AV.undef) ∧
 (∀(i f:Nat),borrowC h (.vptr i f)=AV.undef) ∧
 (∀(cs:List AV),borrowC h (.agg cs)=AV.undef) ∧
 (∀(cs:List AV),borrowC h (.tup cs)=AV.undef) ∧
 (∀(b:Bool) (x:AV),borrowC h (.gd b x)=AV.undef) ∧
 (∀(f:Nat) (cs:List AV),borrowC h (.clo f cs)=AV.undef):=
 ⟨rfl,fun _=>rfl,fun _ _=>rfl,fun _ _=>rfl,fun _ _ _=>rfl,fun _=>rfl,fun _=>rfl,rfl,fun _ _=>rfl,fun _=>rfl,fun _ _ _=>(by simp only[borrowC,borSl];split<;>simp_all),fun _ _ _=>rfl,fun _ _=>rfl,fun _=>rfl,fun _=>rfl,fun _ _=>rfl,fun _ _=>rfl⟩
theorem borrow_eqs (h:HP) :
 (borrow h AV.undef=AV.undef) ∧
 (∀(b:Bool),borrow h (.bool b)=(.bool b)) ∧
 (∀(k:IntKind) (n:Int),borrow h (.int k n)=(.int k n)) ∧
 (∀(k:FloatKind) (n:Nat),borrow h (.fl k n)=(.fl k n)) ∧
 (∀(k:FloatKind) (a b:Nat),borrow h (.cx k a b)=(.cx k a b)) ∧
 (∀(l:List UInt8),borrow h (.str l)=(.str l)) ∧
 (∀(x:Value),borrow h (.lit x)=(.lit x)) ∧
 (borrow h AV.nilsl=AV.nilsl) ∧
 (∀(sz0:Nat) (es0:List AV),borrow h (.ro sz0 es0)=(.ro sz0 es0)) ∧
 (∀(x:AV),borrow h (.elt x)=(.elt x)) ∧
 (∀(i o n:Nat),borrow h (.sl i o n)=borSl (hget h i) o n) ∧
 (∀(i j f:Nat),borrow h (.ptr i j f)=AV.undef) ∧
 (∀(i f:Nat),borrow h (.vptr i f)=AV.undef) ∧
 (∀(cs:List AV),borrow h (.agg cs)=.agg (cs.map (borrowC h))) ∧
 (∀(cs:List AV),borrow h (.tup cs)=AV.undef) ∧
 (∀(b:Bool) (x:AV),borrow h (.gd b x)=AV.undef) ∧
 (∀(f:Nat) (cs:List AV),borrow h (.clo f cs)=AV.undef):=
 ⟨rfl,fun _=>rfl,fun _ _=>rfl,fun _ _=>rfl,fun _ _ _=>rfl,fun _=>rfl,fun _=>rfl,rfl,fun _ _=>rfl,fun _=>rfl,fun _ _ _=>(by simp only[borrow,borrowC,borSl];split<;>simp_all),fun _ _ _=>rfl,fun _ _=>rfl,fun _=>rfl,fun _=>rfl,fun _ _=>rfl,fun _ _=>rfl⟩
theorem bcell_eqs (h0 h:HP) :
 (bcell h0 h AV.undef=AV.undef) ∧
 (∀(b:Bool),bcell h0 h (.bool b)=(.bool b)) ∧
 (∀(k:IntKind) (n:Int),bcell h0 h (.int k n)=(.int k n)) ∧
 (∀(k:FloatKind) (n:Nat),bcell h0 h (.fl k n)=(.fl k n)) ∧
 (∀(k:FloatKind) (a b:Nat),bcell h0 h (.cx k a b)=(.cx k a b)) ∧
 (∀(l:List UInt8),bcell h0 h (.str l)=(.str l)) ∧
 (∀(x:Value),bcell h0 h (.lit x)=(.lit x)) ∧
 (bcell h0 h AV.nilsl=AV.nilsl) ∧
 (∀(sz0:Nat) (es0:List AV),bcell h0 h (.ro sz0 es0)=(.ro sz0 es0)) ∧
 (∀(x:AV),bcell h0 h (.elt x)=(.elt x)) ∧
 (∀(i o n:Nat),bcell h0 h (.sl i o n)=keepO (hget h0 i) AV.undef (borSl (hget h i) o n)) ∧
 (∀(i j f:Nat),bcell h0 h (.ptr i j f)=AV.undef) ∧
 (∀(i f:Nat),bcell h0 h (.vptr i f)=AV.undef) ∧
 (∀(cs:List AV),bcell h0 h (.agg cs)=AV.undef) ∧
 (∀(cs:List AV),bcell h0 h (.tup cs)=AV.undef) ∧
 (∀(b:Bool) (x:AV),bcell h0 h (.gd b x)=AV.undef) ∧
 (∀(f:Nat) (cs:List AV),bcell h0 h (.clo f cs)=AV.undef):=
 ⟨rfl,fun _=>rfl,fun _ _=>rfl,fun _ _=>rfl,fun _ _ _=>rfl,fun _=>rfl,fun _=>rfl,rfl,fun _ _=>rfl,fun _=>rfl,fun _ _ _=>(by simp only[bcell,borrowC,borSl,keepO];split<;>(try split)<;>simp_all),fun _ _ _=>rfl,fun _ _=>rfl,fun _=>rfl,fun _=>rfl,fun _ _=>rfl,fun _ _=>rfl⟩
theorem borC_eqs (h0 h:HP) :
 (borC h0 h AV.undef=AV.undef) ∧
 (∀(b:Bool),borC h0 h (.bool b)=(.bool b)) ∧
 (∀(k:IntKind) (n:Int),borC h0 h (.int k n)=(.int k n)) ∧
 (∀(k:FloatKind) (n:Nat),borC h0 h (.fl k n)=(.fl k n)) ∧
 (∀(k:FloatKind) (a b:Nat),borC h0 h (.cx k a b)=(.cx k a b)) ∧
 (∀(l:List UInt8),borC h0 h (.str l)=(.str l)) ∧
 (∀(x:Value),borC h0 h (.lit x)=(.lit x)) ∧
 (borC h0 h AV.nilsl=AV.nilsl) ∧
 (∀(sz0:Nat) (es0:List AV),borC h0 h (.ro sz0 es0)=(.ro sz0 es0)) ∧
 (∀(x:AV),borC h0 h (.elt x)=(.elt x)) ∧
 (∀(i o n:Nat),borC h0 h (.sl i o n)=keepO (hget h0 i) (.sl i o n) (borSl (hget h i) o n)) ∧
 (∀(i j f:Nat),borC h0 h (.ptr i j f)=keepO (hget h0 i) (.ptr i j f) AV.undef) ∧
 (∀(i f:Nat),borC h0 h (.vptr i f)=keepO (hget h0 i) (.vptr i f) (borV h0 h (hget h i) f)) ∧
 (∀(cs:List AV),borC h0 h (.agg cs)=AV.undef) ∧
 (∀(cs:List AV),borC h0 h (.tup cs)=AV.undef) ∧
 (∀(b:Bool) (x:AV),borC h0 h (.gd b x)=AV.undef) ∧
 (∀(f:Nat) (cs:List AV),borC h0 h (.clo f cs)=AV.undef):=
 ⟨rfl,fun _=>rfl,fun _ _=>rfl,fun _ _=>rfl,fun _ _ _=>rfl,fun _=>rfl,fun _=>rfl,rfl,fun _ _=>rfl,fun _=>rfl,fun _ _ _=>(by simp only[borC,borrowC,borSl,keepO];split<;>(try split)<;>simp_all),fun _ _ _=>(by simp only[borC,keepO];rfl),fun _ _=>(by simp only[borC,borV,keepO];rfl),fun _=>rfl,fun _=>rfl,fun _ _=>rfl,fun _ _=>rfl⟩
theorem bor_eqs (h0 h:HP) :
 (bor h0 h AV.undef=AV.undef) ∧
 (∀(b:Bool),bor h0 h (.bool b)=(.bool b)) ∧
 (∀(k:IntKind) (n:Int),bor h0 h (.int k n)=(.int k n)) ∧
 (∀(k:FloatKind) (n:Nat),bor h0 h (.fl k n)=(.fl k n)) ∧
 (∀(k:FloatKind) (a b:Nat),bor h0 h (.cx k a b)=(.cx k a b)) ∧
 (∀(l:List UInt8),bor h0 h (.str l)=(.str l)) ∧
 (∀(x:Value),bor h0 h (.lit x)=(.lit x)) ∧
 (bor h0 h AV.nilsl=AV.nilsl) ∧
 (∀(sz0:Nat) (es0:List AV),bor h0 h (.ro sz0 es0)=(.ro sz0 es0)) ∧
 (∀(x:AV),bor h0 h (.elt x)=(.elt x)) ∧
 (∀(i o n:Nat),bor h0 h (.sl i o n)=keepO (hget h0 i) (.sl i o n) (borSl (hget h i) o n)) ∧
 (∀(i j f:Nat),bor h0 h (.ptr i j f)=keepO (hget h0 i) (.ptr i j f) AV.undef) ∧
 (∀(i f:Nat),bor h0 h (.vptr i f)=keepO (hget h0 i) (.vptr i f) (borV h0 h (hget h i) f)) ∧
 (∀(cs:List AV),bor h0 h (.agg cs)=.agg (cs.map (borC h0 h))) ∧
 (∀(cs:List AV),bor h0 h (.tup cs)=AV.undef) ∧
 (∀(b:Bool) (x:AV),bor h0 h (.gd b x)=AV.undef) ∧
 (∀(f:Nat) (cs:List AV),bor h0 h (.clo f cs)=AV.undef):=
 ⟨rfl,fun _=>rfl,fun _ _=>rfl,fun _ _=>rfl,fun _ _ _=>rfl,fun _=>rfl,fun _=>rfl,rfl,fun _ _=>rfl,fun _=>rfl,fun _ _ _=>(by simp only[bor,borC,borrowC,borSl,keepO];split<;>(try split)<;>simp_all),fun _ _ _=>(by simp only[bor,borC,keepO];rfl),fun _ _=>(by simp only[bor,borC,borV,keepO];rfl),fun _=>rfl,fun _=>rfl,fun _ _=>rfl,fun _ _=>rfl⟩
theorem noRefC_eqs :
 (noRefC  AV.undef=true) ∧
 (∀(b:Bool),noRefC  (.bool b)=true) ∧
 (∀(k:IntKind) (n:Int),noRefC  (.int k n)=true) ∧
 (∀(k:FloatKind) (n:Nat),noRefC  (.fl k n)=true) ∧
 (∀(k:FloatKind) (a b:Nat),noRefC  (.cx k a b)=true) ∧
 (∀(l:List UInt8),noRefC  (.str l)=true) ∧
 (∀(x:Value),noRefC  (.lit x)=true) ∧
 (noRefC  AV.nilsl=true) ∧
 (∀(sz0:Nat) (es0:List AV),noRefC  (.ro sz0 es0)=true) ∧
 (∀(x:AV),noRefC  (.elt x)=true) ∧
 (∀(i o n:Nat),noRefC  (.sl i o n)=false) ∧
 (∀(i j f:Nat),noRefC  (.ptr i j f)=false) ∧
 (∀(i f:Nat),noRefC  (.vptr i f)=false) ∧
 (∀(cs:List AV),noRefC  (.agg cs)=false) ∧
 (∀(cs:List AV),noRefC  (.tup cs)=false) ∧
 (∀(b:Bool) (x:AV),noRefC  (.gd b x)=false) ∧
 (∀(f:Nat) (cs:List AV),noRefC  (.clo f cs)=false):=
 ⟨rfl,fun _=>rfl,fun _ _=>rfl,fun _ _=>rfl,fun _ _ _=>rfl,fun _=>rfl,fun _=>rfl,rfl,fun _ _=>rfl,fun _=>rfl,fun _ _ _=>rfl,fun _ _ _=>rfl,fun _ _=>rfl,fun _=>rfl,fun _=>rfl,fun _ _=>rfl,fun _ _=>rfl⟩
theorem flC_eqs :
 (flC  AV.undef=true) ∧
 (∀(b:Bool),flC  (.bool b)=true) ∧
 (∀(k:IntKind) (n:Int),flC  (.int k n)=true) ∧
 (∀(k:FloatKind) (n:Nat),flC  (.fl k n)=true) ∧
 (∀(k:FloatKind) (a b:Nat),flC  (.cx k a b)=true) ∧
 (∀(l:List UInt8),flC  (.str l)=true) ∧
 (∀(x:Value),flC  (.lit x)=true) ∧
 (flC  AV.nilsl=true) ∧
 (∀(sz0:Nat) (es0:List AV),flC  (.ro sz0 es0)=false) ∧
 (∀(x:AV),flC  (.elt x)=false) ∧
 (∀(i o n:Nat),flC  (.sl i o n)=false) ∧
 (∀(i j f:Nat),flC  (.ptr i j f)=false) ∧
 (∀(i f:Nat),flC  (.vptr i f)=false) ∧
 (∀(cs:List AV),flC  (.agg cs)=false) ∧
 (∀(cs:List AV),flC  (.tup cs)=false) ∧
 (∀(b:Bool) (x:AV),flC  (.gd b x)=false) ∧
 (∀(f:Nat) (cs:List AV),flC  (.clo f cs)=false):=
 ⟨rfl,fun _=>rfl,fun _ _=>rfl,fun _ _=>rfl,fun _ _ _=>rfl,fun _=>rfl,fun _=>rfl,rfl,fun _ _=>rfl,fun _=>rfl,fun _ _ _=>rfl,fun _ _ _=>rfl,fun _ _=>rfl,fun _=>rfl,fun _=>rfl,fun _ _=>rfl,fun _ _=>rfl⟩
theorem isCell_eqs :
 (isCell  AV.undef=false) ∧
 (∀(b:Bool),isCell  (.bool b)=true) ∧
 (∀(k:IntKind) (n:Int),isCell  (.int k n)=true) ∧
 (∀(k:FloatKind) (n:Nat),isCell  (.fl k n)=true) ∧
 (∀(k:FloatKind) (a b:Nat),isCell  (.cx k a b)=true) ∧
 (∀(l:List UInt8),isCell  (.str l)=true) ∧
 (∀(x:Value),isCell  (.lit x)=x.oneCell') ∧
 (isCell  AV.nilsl=true) ∧
 (∀(sz0:Nat) (es0:List AV),isCell  (.ro sz0 es0)=true) ∧
 (∀(x:AV),isCell  (.elt x)=true) ∧
 (∀(i o n:Nat),isCell  (.sl i o n)=true) ∧
 (∀(i j f:Nat),isCell  (.ptr i j f)=true) ∧
 (∀(i f:Nat),isCell  (.vptr i f)=true) ∧
 (∀(cs:List AV),isCell  (.agg cs)=false) ∧
 (∀(cs:List AV),isCell  (.tup cs)=false) ∧
 (∀(b:Bool) (x:AV),isCell  (.gd b x)=false) ∧
 (∀(f:Nat) (cs:List AV),isCell  (.clo f cs)=false):=
 ⟨rfl,fun _=>rfl,fun _ _=>rfl,fun _ _=>rfl,fun _ _ _=>rfl,fun _=>rfl,fun _=>rfl,rfl,fun _ _=>rfl,fun _=>rfl,fun _ _ _=>rfl,fun _ _ _=>rfl,fun _ _=>rfl,fun _=>rfl,fun _=>rfl,fun _ _=>rfl,fun _ _=>rfl⟩
theorem noRef_eqs :
 (noRef  AV.undef=true) ∧
 (∀(b:Bool),noRef  (.bool b)=true) ∧
 (∀(k:IntKind) (n:Int),noRef  (.int k n)=true) ∧
 (∀(k:FloatKind) (n:Nat),noRef  (.fl k n)=true) ∧
 (∀(k:FloatKind) (a b:Nat),noRef  (.cx k a b)=true) ∧
 (∀(l:List UInt8),noRef  (.str l)=true) ∧
 (∀(x:Value),noRef  (.lit x)=true) ∧
 (noRef  AV.nilsl=true) ∧
 (∀(sz0:Nat) (es0:List AV),noRef  (.ro sz0 es0)=true) ∧
 (∀(x:AV),noRef  (.elt x)=true) ∧
 (∀(i o n:Nat),noRef  (.sl i o n)=false) ∧
 (∀(i j f:Nat),noRef  (.ptr i j f)=false) ∧
 (∀(i f:Nat),noRef  (.vptr i f)=false) ∧
 (∀(cs:List AV),noRef  (.agg cs)=cs.all noRefC) ∧
 (∀(cs:List AV),noRef  (.tup cs)=false) ∧
 (∀(b:Bool) (x:AV),noRef  (.gd b x)=false) ∧
 (∀(f:Nat) (cs:List AV),noRef  (.clo f cs)=false):=
 ⟨rfl,fun _=>rfl,fun _ _=>rfl,fun _ _=>rfl,fun _ _ _=>rfl,fun _=>rfl,fun _=>rfl,rfl,fun _ _=>rfl,fun _=>rfl,fun _ _ _=>rfl,fun _ _ _=>rfl,fun _ _=>rfl,fun _=>rfl,fun _=>rfl,fun _ _=>rfl,fun _ _=>rfl⟩
theorem noRefT_eqs :
 (noRefT  AV.undef=true) ∧
 (∀(b:Bool),noRefT  (.bool b)=true) ∧
 (∀(k:IntKind) (n:Int),noRefT  (.int k n)=true) ∧
 (∀(k:FloatKind) (n:Nat),noRefT  (.fl k n)=true) ∧
 (∀(k:FloatKind) (a b:Nat),noRefT  (.cx k a b)=true) ∧
 (∀(l:List UInt8),noRefT  (.str l)=true) ∧
 (∀(x:Value),noRefT  (.lit x)=true) ∧
 (noRefT  AV.nilsl=true) ∧
 (∀(sz0:Nat) (es0:List AV),noRefT  (.ro sz0 es0)=true) ∧
 (∀(x:AV),noRefT  (.elt x)=true) ∧
 (∀(i o n:Nat),noRefT  (.sl i o n)=false) ∧
 (∀(i j f:Nat),noRefT  (.ptr i j f)=false) ∧
 (∀(i f:Nat),noRefT  (.vptr i f)=false) ∧
 (∀(cs:List AV),noRefT  (.agg cs)=cs.all noRefC) ∧
 (∀(cs:List AV),noRefT  (.tup cs)=cs.all noRef) ∧
 (∀(b:Bool) (x:AV),noRefT  (.gd b x)=false) ∧
 (∀(f:Nat) (cs:List AV),noRefT  (.clo f cs)=false):=
 ⟨rfl,fun _=>rfl,fun _ _=>rfl,fun _ _=>rfl,fun _ _ _=>rfl,fun _=>rfl,fun _=>rfl,rfl,fun _ _=>rfl,fun _=>rfl,fun _ _ _=>rfl,fun _ _ _=>rfl,fun _ _=>rfl,fun _=>rfl,fun _=>rfl,fun _ _=>rfl,fun _ _=>rfl⟩
theorem flA_eqs :
 (flA  AV.undef=true) ∧
 (∀(b:Bool),flA  (.bool b)=true) ∧
 (∀(k:IntKind) (n:Int),flA  (.int k n)=true) ∧
 (∀(k:FloatKind) (n:Nat),flA  (.fl k n)=true) ∧
 (∀(k:FloatKind) (a b:Nat),flA  (.cx k a b)=true) ∧
 (∀(l:List UInt8),flA  (.str l)=true) ∧
 (∀(x:Value),flA  (.lit x)=true) ∧
 (flA  AV.nilsl=true) ∧
 (∀(sz0:Nat) (es0:List AV),flA  (.ro sz0 es0)=false) ∧
 (∀(x:AV),flA  (.elt x)=false) ∧
 (∀(i o n:Nat),flA  (.sl i o n)=false) ∧
 (∀(i j f:Nat),flA  (.ptr i j f)=false) ∧
 (∀(i f:Nat),flA  (.vptr i f)=false) ∧
 (∀(cs:List AV),flA  (.agg cs)=cs.all flC) ∧
 (∀(cs:List AV),flA  (.tup cs)=false) ∧
 (∀(b:Bool) (x:AV),flA  (.gd b x)=false) ∧
 (∀(f:Nat) (cs:List AV),flA  (.clo f cs)=false):=
 ⟨rfl,fun _=>rfl,fun _ _=>rfl,fun _ _=>rfl,fun _ _ _=>rfl,fun _=>rfl,fun _=>rfl,rfl,fun _ _=>rfl,fun _=>rfl,fun _ _ _=>rfl,fun _ _ _=>rfl,fun _ _=>rfl,fun _=>rfl,fun _=>rfl,fun _ _=>rfl,fun _ _=>rfl⟩
theorem flT_eqs :
 (flT  AV.undef=true) ∧
 (∀(b:Bool),flT  (.bool b)=true) ∧
 (∀(k:IntKind) (n:Int),flT  (.int k n)=true) ∧
 (∀(k:FloatKind) (n:Nat),flT  (.fl k n)=true) ∧
 (∀(k:FloatKind) (a b:Nat),flT  (.cx k a b)=true) ∧
 (∀(l:List UInt8),flT  (.str l)=true) ∧
 (∀(x:Value),flT  (.lit x)=true) ∧
 (flT  AV.nilsl=true) ∧
 (∀(sz0:Nat) (es0:List AV),flT  (.ro sz0 es0)=false) ∧
 (∀(x:AV),flT  (.elt x)=false) ∧
 (∀(i o n:Nat),flT  (.sl i o n)=false) ∧
 (∀(i j f:Nat),flT  (.ptr i j f)=false) ∧
 (∀(i f:Nat),flT  (.vptr i f)=false) ∧
 (∀(cs:List AV),flT  (.agg cs)=cs.all flC) ∧
 (∀(cs:List AV),flT  (.tup cs)=cs.all flA) ∧
 (∀(b:Bool) (x:AV),flT  (.gd b x)=false) ∧
 (∀(f:Nat) (cs:List AV),flT  (.clo f cs)=false):=
 ⟨rfl,fun _=>rfl,fun _ _=>rfl,fun _ _=>rfl,fun _ _ _=>rfl,fun _=>rfl,fun _=>rfl,rfl,fun _ _=>rfl,fun _=>rfl,fun _ _ _=>rfl,fun _ _ _=>rfl,fun _ _=>rfl,fun _=>rfl,fun _=>rfl,fun _ _=>rfl,fun _ _=>rfl⟩
theorem frC_eqs (h:HP) :
 (frC h AV.undef=true) ∧
 (∀(b:Bool),frC h (.bool b)=true) ∧
 (∀(k:IntKind) (n:Int),frC h (.int k n)=true) ∧
 (∀(k:FloatKind) (n:Nat),frC h (.fl k n)=true) ∧
 (∀(k:FloatKind) (a b:Nat),frC h (.cx k a b)=true) ∧
 (∀(l:List UInt8),frC h (.str l)=true) ∧
 (∀(x:Value),frC h (.lit x)=true) ∧
 (frC h AV.nilsl=true) ∧
 (∀(sz0:Nat) (es0:List AV),frC h (.ro sz0 es0)=false) ∧
 (∀(x:AV),frC h (.elt x)=false) ∧
 (∀(i o n:Nat),frC h (.sl i o n)=(hget h i).isSome) ∧
 (∀(i j f:Nat),frC h (.ptr i j f)=(hget h i).isSome) ∧
 (∀(i f:Nat),frC h (.vptr i f)=(hget h i).isSome) ∧
 (∀(cs:List AV),frC h (.agg cs)=false) ∧
 (∀(cs:List AV),frC h (.tup cs)=false) ∧
 (∀(b:Bool) (x:AV),frC h (.gd b x)=false) ∧
 (∀(f:Nat) (cs:List AV),frC h (.clo f cs)=false):=
 ⟨rfl,fun _=>rfl,fun _ _=>rfl,fun _ _=>rfl,fun _ _ _=>rfl,fun _=>rfl,fun _=>rfl,rfl,fun _ _=>rfl,fun _=>rfl,fun _ _ _=>rfl,fun _ _ _=>rfl,fun _ _=>rfl,fun _=>rfl,fun _=>rfl,fun _ _=>rfl,fun _ _=>rfl⟩
theorem frA_eqs (h:HP) :
 (frA h AV.undef=true) ∧
 (∀(b:Bool),frA h (.bool b)=true) ∧
 (∀(k:IntKind) (n:Int),frA h (.int k n)=true) ∧
 (∀(k:FloatKind) (n:Nat),frA h (.fl k n)=true) ∧
 (∀(k:FloatKind) (a b:Nat),frA h (.cx k a b)=true) ∧
 (∀(l:List UInt8),frA h (.str l)=true) ∧
 (∀(x:Value),frA h (.lit x)=true) ∧
 (frA h AV.nilsl=true) ∧
 (∀(sz0:Nat) (es0:List AV),frA h (.ro sz0 es0)=false) ∧
 (∀(x:AV),frA h (.elt x)=false) ∧
 (∀(i o n:Nat),frA h (.sl i o n)=(hget h i).isSome) ∧
 (∀(i j f:Nat),frA h (.ptr i j f)=(hget h i).isSome) ∧
 (∀(i f:Nat),frA h (.vptr i f)=(hget h i).isSome) ∧
 (∀(cs:List AV),frA h (.agg cs)=cs.all (frC h)) ∧
 (∀(cs:List AV),frA h (.tup cs)=false) ∧
 (∀(b:Bool) (x:AV),frA h (.gd b x)=false) ∧
 (∀(f:Nat) (cs:List AV),frA h (.clo f cs)=false):=
 ⟨rfl,fun _=>rfl,fun _ _=>rfl,fun _ _=>rfl,fun _ _ _=>rfl,fun _=>rfl,fun _=>rfl,rfl,fun _ _=>rfl,fun _=>rfl,fun _ _ _=>rfl,fun _ _ _=>rfl,fun _ _=>rfl,fun _=>rfl,fun _=>rfl,fun _ _=>rfl,fun _ _=>rfl⟩
theorem flI_eqs (h:HP) :
 (flI h AV.undef=true) ∧
 (∀(b:Bool),flI h (.bool b)=true) ∧
 (∀(k:IntKind) (n:Int),flI h (.int k n)=true) ∧
 (∀(k:FloatKind) (n:Nat),flI h (.fl k n)=true) ∧
 (∀(k:FloatKind) (a b:Nat),flI h (.cx k a b)=true) ∧
 (∀(l:List UInt8),flI h (.str l)=true) ∧
 (∀(x:Value),flI h (.lit x)=true) ∧
 (flI h AV.nilsl=true) ∧
 (∀(sz0:Nat) (es0:List AV),flI h (.ro sz0 es0)=false) ∧
 (∀(x:AV),flI h (.elt x)=false) ∧
 (∀(i o n:Nat),flI h (.sl i o n)=(hget h i).isSome) ∧
 (∀(i j f:Nat),flI h (.ptr i j f)=(hget h i).isSome) ∧
 (∀(i f:Nat),flI h (.vptr i f)=(hget h i).isSome) ∧
 (∀(cs:List AV),flI h (.agg cs)=cs.all (frC h)) ∧
 (∀(cs:List AV),flI h (.tup cs)=cs.all (frA h)) ∧
 (∀(b:Bool) (x:AV),flI h (.gd b x)=false) ∧
 (∀(f:Nat) (cs:List AV),flI h (.clo f cs)=false):=
 ⟨rfl,fun _=>rfl,fun _ _=>rfl,fun _ _=>rfl,fun _ _ _=>rfl,fun _=>rfl,fun _=>rfl,rfl,fun _ _=>rfl,fun _=>rfl,fun _ _ _=>rfl,fun _ _ _=>rfl,fun _ _=>rfl,fun _=>rfl,fun _=>rfl,fun _ _=>rfl,fun _ _=>rfl⟩
theorem inC_eqs (h:HP) :
 (inC h AV.undef=true) ∧
 (∀(b:Bool),inC h (.bool b)=true) ∧
 (∀(k:IntKind) (n:Int),inC h (.int k n)=true) ∧
 (∀(k:FloatKind) (n:Nat),inC h (.fl k n)=true) ∧
 (∀(k:FloatKind) (a b:Nat),inC h (.cx k a b)=true) ∧
 (∀(l:List UInt8),inC h (.str l)=true) ∧
 (∀(x:Value),inC h (.lit x)=true) ∧
 (inC h AV.nilsl=true) ∧
 (∀(sz0:Nat) (es0:List AV),inC h (.ro sz0 es0)=true) ∧
 (∀(x:AV),inC h (.elt x)=true) ∧
 (∀(i o n:Nat),inC h (.sl i o n)=(hget h i).isSome) ∧
 (∀(i j f:Nat),inC h (.ptr i j f)=(hget h i).isSome) ∧
 (∀(i f:Nat),inC h (.vptr i f)=(hget h i).isSome) ∧
 (∀(cs:List AV),inC h (.agg cs)=false) ∧
 (∀(cs:List AV),inC h (.tup cs)=false) ∧
 (∀(b:Bool) (x:AV),inC h (.gd b x)=false) ∧
 (∀(f:Nat) (cs:List AV),inC h (.clo f cs)=false):=
 ⟨rfl,fun _=>rfl,fun _ _=>rfl,fun _ _=>rfl,fun _ _ _=>rfl,fun _=>rfl,fun _=>rfl,rfl,fun _ _=>rfl,fun _=>rfl,fun _ _ _=>rfl,fun _ _ _=>rfl,fun _ _=>rfl,fun _=>rfl,fun _=>rfl,fun _ _=>rfl,fun _ _=>rfl⟩
theorem inA_eqs (h:HP) :
 (inA h AV.undef=true) ∧
 (∀(b:Bool),inA h (.bool b)=true) ∧
 (∀(k:IntKind) (n:Int),inA h (.int k n)=true) ∧
 (∀(k:FloatKind) (n:Nat),inA h (.fl k n)=true) ∧
 (∀(k:FloatKind) (a b:Nat),inA h (.cx k a b)=true) ∧
 (∀(l:List UInt8),inA h (.str l)=true) ∧
 (∀(x:Value),inA h (.lit x)=true) ∧
 (inA h AV.nilsl=true) ∧
 (∀(sz0:Nat) (es0:List AV),inA h (.ro sz0 es0)=true) ∧
 (∀(x:AV),inA h (.elt x)=true) ∧
 (∀(i o n:Nat),inA h (.sl i o n)=(hget h i).isSome) ∧
 (∀(i j f:Nat),inA h (.ptr i j f)=(hget h i).isSome) ∧
 (∀(i f:Nat),inA h (.vptr i f)=(hget h i).isSome) ∧
 (∀(cs:List AV),inA h (.agg cs)=cs.all (inC h)) ∧
 (∀(cs:List AV),inA h (.tup cs)=false) ∧
 (∀(b:Bool) (x:AV),inA h (.gd b x)=false) ∧
 (∀(f:Nat) (cs:List AV),inA h (.clo f cs)=false):=
 ⟨rfl,fun _=>rfl,fun _ _=>rfl,fun _ _=>rfl,fun _ _ _=>rfl,fun _=>rfl,fun _=>rfl,rfl,fun _ _=>rfl,fun _=>rfl,fun _ _ _=>rfl,fun _ _ _=>rfl,fun _ _=>rfl,fun _=>rfl,fun _=>rfl,fun _ _=>rfl,fun _ _=>rfl⟩
theorem inT_eqs (h:HP) :
 (inT h AV.undef=true) ∧
 (∀(b:Bool),inT h (.bool b)=true) ∧
 (∀(k:IntKind) (n:Int),inT h (.int k n)=true) ∧
 (∀(k:FloatKind) (n:Nat),inT h (.fl k n)=true) ∧
 (∀(k:FloatKind) (a b:Nat),inT h (.cx k a b)=true) ∧
 (∀(l:List UInt8),inT h (.str l)=true) ∧
 (∀(x:Value),inT h (.lit x)=true) ∧
 (inT h AV.nilsl=true) ∧
 (∀(sz0:Nat) (es0:List AV),inT h (.ro sz0 es0)=true) ∧
 (∀(x:AV),inT h (.elt x)=true) ∧
 (∀(i o n:Nat),inT h (.sl i o n)=(hget h i).isSome) ∧
 (∀(i j f:Nat),inT h (.ptr i j f)=(hget h i).isSome) ∧
 (∀(i f:Nat),inT h (.vptr i f)=(hget h i).isSome) ∧
 (∀(cs:List AV),inT h (.agg cs)=cs.all (inC h)) ∧
 (∀(cs:List AV),inT h (.tup cs)=cs.all (inA h)) ∧
 (∀(b:Bool) (x:AV),inT h (.gd b x)=false) ∧
 (∀(f:Nat) (cs:List AV),inT h (.clo f cs)=false):=
 ⟨rfl,fun _=>rfl,fun _ _=>rfl,fun _ _=>rfl,fun _ _ _=>rfl,fun _=>rfl,fun _=>rfl,rfl,fun _ _=>rfl,fun _=>rfl,fun _ _ _=>rfl,fun _ _ _=>rfl,fun _ _=>rfl,fun _=>rfl,fun _=>rfl,fun _ _=>rfl,fun _ _=>rfl⟩
theorem stripV_eqs :
 (stripV  AV.undef=AV.undef) ∧
 (∀(b:Bool),stripV  (.bool b)=(.bool b)) ∧
 (∀(k:IntKind) (n:Int),stripV  (.int k n)=(.int k n)) ∧
 (∀(k:FloatKind) (n:Nat),stripV  (.fl k n)=(.fl k n)) ∧
 (∀(k:FloatKind) (a b:Nat),stripV  (.cx k a b)=(.cx k a b)) ∧
 (∀(l:List UInt8),stripV  (.str l)=(.str l)) ∧
 (∀(x:Value),stripV  (.lit x)=(.lit x)) ∧
 (stripV  AV.nilsl=AV.nilsl) ∧
 (∀(sz0:Nat) (es0:List AV),stripV  (.ro sz0 es0)=(.ro sz0 es0)) ∧
 (∀(x:AV),stripV  (.elt x)=(.elt x)) ∧
 (∀(i o n:Nat),stripV  (.sl i o n)=(.sl i o n)) ∧
 (∀(i j f:Nat),stripV  (.ptr i j f)=(.ptr i j f)) ∧
 (∀(i f:Nat),stripV  (.vptr i f)=(.vptr i f)) ∧
 (∀(cs:List AV),stripV  (.agg cs)=(.agg cs)) ∧
 (∀(cs:List AV),stripV  (.tup cs)=(.tup cs)) ∧
 (∀(b:Bool) (x:AV),stripV  (.gd b x)=x) ∧
 (∀(f:Nat) (cs:List AV),stripV  (.clo f cs)=.clo f cs):=
 ⟨rfl,fun _=>rfl,fun _ _=>rfl,fun _ _=>rfl,fun _ _ _=>rfl,fun _=>rfl,fun _=>rfl,rfl,fun _ _=>rfl,fun _=>rfl,fun _ _ _=>rfl,fun _ _ _=>rfl,fun _ _=>rfl,fun _=>rfl,fun _=>rfl,fun _ _=>rfl,fun _ _=>rfl⟩
theorem stripC_eqs (γ:Bool) :
 (stripC γ AV.undef=True) ∧
 (∀(b:Bool),stripC γ (.bool b)=True) ∧
 (∀(k:IntKind) (n:Int),stripC γ (.int k n)=True) ∧
 (∀(k:FloatKind) (n:Nat),stripC γ (.fl k n)=True) ∧
 (∀(k:FloatKind) (a b:Nat),stripC γ (.cx k a b)=True) ∧
 (∀(l:List UInt8),stripC γ (.str l)=True) ∧
 (∀(x:Value),stripC γ (.lit x)=True) ∧
 (stripC γ AV.nilsl=True) ∧
 (∀(sz0:Nat) (es0:List AV),stripC γ (.ro sz0 es0)=True) ∧
 (∀(x:AV),stripC γ (.elt x)=True) ∧
 (∀(i o n:Nat),stripC γ (.sl i o n)=True) ∧
 (∀(i j f:Nat),stripC γ (.ptr i j f)=True) ∧
 (∀(i f:Nat),stripC γ (.vptr i f)=True) ∧
 (∀(cs:List AV),stripC γ (.agg cs)=True) ∧
 (∀(cs:List AV),stripC γ (.tup cs)=True) ∧
 (∀(b:Bool) (x:AV),stripC γ (.gd b x)=(γ=true→b=true)) ∧
 (∀(f:Nat) (cs:List AV),stripC γ (.clo f cs)=True):=
 ⟨rfl,fun _=>rfl,fun _ _=>rfl,fun _ _=>rfl,fun _ _ _=>rfl,fun _=>rfl,fun _=>rfl,rfl,fun _ _=>rfl,fun _=>rfl,fun _ _ _=>rfl,fun _ _ _=>rfl,fun _ _=>rfl,fun _=>rfl,fun _=>rfl,fun _ _=>rfl,fun _ _=>rfl⟩
theorem ev_eqs (st:St):(∀k,ev st (.t k)=(sget st.s k).getD .undef)∧(∀v,ev st (.c v)=v):=⟨fun _=>rfl,fun _=>rfl⟩
theorem put_eqs (st:St) (v:AV):(∀d,put st (some d) v=⟨(d,v)::st.s,st.h⟩)∧put st none v=st:=⟨fun _=>rfl,rfl⟩
theorem grd_eqs (w:Bool):(∀β,grd (some (.bool β)) w=some (β==w))∧(∀b β,grd (some (.gd b (.bool β))) w=some (b&&(β==w)))∧grd (some (.gd false .undef)) w=some false:=⟨fun _=>rfl,fun b _=>by cases b<;>rfl,rfl⟩
theorem newW_eq (st:St) (d:Nat) (W:Win):newW st d W=⟨killS d st.s,hset (killH d st.h) d W⟩:=(rfl)
theorem killW_eqs (id:Nat):(∀sz es,killW id (.arr sz es)=.arr sz es)∧(∀cs,killW id (.var cs)=.var (cs.map (killC id)))∧(∀kd l,killW id (.mp kd l)=.mp kd l):=⟨fun _ _=>rfl,fun _=>rfl,fun _ _=>rfl⟩
theorem frzW_eqs (id sz:Nat) (es:List AV):(∀sz' es',frzW id sz es (.arr sz' es')=.arr sz' es')∧(∀cs,frzW id sz es (.var cs)=.var (cs.map (frzC id sz es)))∧(∀kd l,frzW id sz es (.mp kd l)=.mp kd l):=⟨fun _ _=>rfl,fun _=>rfl,fun _ _=>rfl⟩
theorem renW_eqs (id id':Nat):(∀sz es,renW id id' (.arr sz es)=.arr sz es)∧(∀cs,renW id id' (.var cs)=.var (cs.map fun c=>renC id id' (killC id' c)))∧(∀kd l,renW id id' (.mp kd l)=.mp kd l):=⟨fun _ _=>rfl,fun _=>rfl,fun _ _=>rfl⟩
theorem kWI_eqs (ids keep:List Nat):(∀sz es,kWI ids keep (.arr sz es)=.arr sz es)∧(∀cs,kWI ids keep (.var cs)=.var (cs.map (kcI ids keep)))∧(∀kd l,kWI ids keep (.mp kd l)=.mp kd l):=⟨fun _ _=>rfl,fun _=>rfl,fun _ _=>rfl⟩
theorem inW_eqs (h:HP):(∀sz es,inW h (.arr sz es)=true)∧(∀cs,inW h (.var cs)=cs.all (inC h))∧(∀kd l,inW h (.mp kd l)=true):=⟨fun _ _=>rfl,fun _=>rfl,fun _ _=>rfl⟩
theorem flW_eqs (h:HP):(∀sz es,flW h (.arr sz es)=es.all flA)∧(∀cs,flW h (.var cs)=cs.all (frC h))∧(∀kd (l:List (MK×AV)),flW h (.mp kd l)=l.all fun p=>flA p.2):=⟨fun _ _=>rfl,fun _=>rfl,fun _ _=>rfl⟩
theorem inH_eqs (h:HP):inH h []=true∧(∀k W r,inH h ((k,W)::r)=(inW h W&&inH h r)):=⟨rfl,fun _ _ _=>rfl⟩
theorem flH_eqs (h:HP):flH h []=true∧(∀k W r,flH h ((k,W)::r)=(flW h W&&flH h r)):=⟨rfl,fun _ _ _=>rfl⟩
theorem namesH_eqs:namesH []=[]∧(∀k W r,namesH ((k,W)::r)=k::namesH r):=⟨rfl,fun _ _ _=>rfl⟩
theorem numbered_eqs (k:Nat):numbered k []=[]∧(∀x r,numbered k (x::r)=(k,x)::numbered (k+1) r):=⟨rfl,fun _ _=>rfl⟩
theorem renS_eqs (id id':Nat):renS id id' []=[]∧(∀k v r,renS id id' ((k,v)::r)=(k,renX id id' (kill id' v))::renS id id' r):=⟨rfl,fun _ _ _=>rfl⟩
theorem renH_eqs (id id':Nat):renH id id' []=[]∧(∀k v r,renH id id' ((k,v)::r)=(rn id id' k,renW id id' v)::renH id id' r):=⟨rfl,fun _ _ _=>rfl⟩
theorem stRen_eq (id id':Nat) (st:St):stRen id id' st=⟨renS id id' st.s,renH id id' st.h⟩:=(rfl)
theorem stNil_eq (k id sz:Nat) (st:St):stNil k id sz st=⟨(k,.sl id 0 0)::killS id st.s,hset (killH id st.h) id (.arr sz [])⟩:=(rfl)
theorem stNilV_eq (p f id sz:Nat) (cs:List AV) (st:St):stNilV p f id sz cs st=⟨killS id st.s,hset (hset (killH id st.h) id (.arr sz [])) p (.var ((cs.map (killC id)).set f (.sl id 0 0)))⟩:=(rfl)
def ifS (b:Bool) (x y:Option (List AV)):Option (List AV):=match b with
 | true=>x
 | false=>y
def slO (W:Option Win) (sz o n:Nat):Option (List AV):=match W with
 | some (.arr sz' es)=>ifS (sz'==sz) (some (sub3 es o n)) none
 | _=>none
theorem ifS_t {x y:Option (List AV)}:ifS true x y=x:=(rfl)
theorem ifS_f {x y:Option (List AV)}:ifS false x y=y:=(rfl)
theorem slO_some {sz sz' o n:Nat} {es:List AV}:slO (some (.arr sz' es)) sz o n=ifS (sz'==sz) (some (sub3 es o n)) none:=(rfl)
theorem ifS_ite {i j:Nat} {x y:Option (List AV)}:(if i=j then x else y)=ifS (i==j) x y:=by
 by_cases h:i=j
 ·subst h;rw[if_pos rfl,show(i==i)=true by simp];rfl
 ·rw[if_neg h,show(i==j)=false by simp[h]];rfl
theorem slE_eqs (sz:Nat) (st:St):slE sz st .nilsl=some []∧(∀sz' es,slE sz st (.ro sz' es)=ifS (sz'==sz) (some es) none)∧(∀id o n,slE sz st (.sl id o n)=slO (hget st.h id) sz o n):=by
 refine⟨rfl,fun sz' es=>?_,fun id o n=>?_⟩
 ·rw[←ifS_ite];rfl
 ·simp only[slE,slO]
  split
  ·rename_i e;rw[e];exact ifS_ite
  ·rename_i e
   split
   ·rename_i e2;exact(e _ _ e2).elim
   ·rfl
def kB (b:Bool) (l:List Nat):List Nat:=match b with
 | true=>l
 | false=>[]
def keep1 (x a:AV):List Nat:=match x,a with
 | .vptr p f,.vptr p' f'=>kB (p==p'&&f==f') [p]
 | _,_=>[]
theorem kB_eqs (l:List Nat):kB true l=l∧kB false l=[]:=⟨rfl,rfl⟩
theorem keepL2_cons (x a:AV) (xs as:List AV):keepL2 (x::xs) (a::as)=keep1 x a++keepL2 xs as:=by
 cases x<;>cases a<;>simp only[keepL2,keep1,List.nil_append]
 rename_i p f p' f'
 by_cases h1:p=p'
 ·by_cases h2:f=f'
  ·subst h1;subst h2;simp[kB]
  ·rw[if_pos h1,if_neg h2,show(p==p'&&f==f')=false by simp[h2]];rfl
 ·rw[if_neg h1,show(p==p'&&f==f')=false by simp[h1]];rfl
theorem keepL2_nil (as:List AV):keepL2 [] as=[]:=by simp[keepL2]
theorem keepL2_nil' (xs:List AV):keepL2 xs []=[]:=by cases xs<;>simp[keepL2]
theorem keep1_eqs:(∀(a:AV),keep1 AV.undef a=[]) ∧
 (∀(b:Bool) (a:AV),keep1 (.bool b) a=[]) ∧
 (∀(k:IntKind) (n:Int) (a:AV),keep1 (.int k n) a=[]) ∧
 (∀(k:FloatKind) (n:Nat) (a:AV),keep1 (.fl k n) a=[]) ∧
 (∀(k:FloatKind) (m n:Nat) (a:AV),keep1 (.cx k m n) a=[]) ∧
 (∀(l:List UInt8) (a:AV),keep1 (.str l) a=[]) ∧
 (∀(v:Value) (a:AV),keep1 (.lit v) a=[]) ∧
 (∀(a:AV),keep1 AV.nilsl a=[]) ∧
 (∀(sz:Nat) (es:List AV) (a:AV),keep1 (.ro sz es) a=[]) ∧
 (∀(x:AV) (a:AV),keep1 (.elt x) a=[]) ∧
 (∀(i o n:Nat) (a:AV),keep1 (.sl i o n) a=[]) ∧
 (∀(i j f:Nat) (a:AV),keep1 (.ptr i j f) a=[]) ∧
 (∀(cs:List AV) (a:AV),keep1 (.agg cs) a=[]) ∧
 (∀(cs:List AV) (a:AV),keep1 (.tup cs) a=[]) ∧
 (∀(b:Bool) (x:AV) (a:AV),keep1 (.gd b x) a=[]) ∧
 (∀(p f:Nat),keep1 (.vptr p f) AV.undef=[]) ∧
 (∀(p f:Nat) (b:Bool),keep1 (.vptr p f) (.bool b)=[]) ∧
 (∀(p f:Nat) (k:IntKind) (n:Int),keep1 (.vptr p f) (.int k n)=[]) ∧
 (∀(p f:Nat) (k:FloatKind) (n:Nat),keep1 (.vptr p f) (.fl k n)=[]) ∧
 (∀(p f:Nat) (k:FloatKind) (m n:Nat),keep1 (.vptr p f) (.cx k m n)=[]) ∧
 (∀(p f:Nat) (l:List UInt8),keep1 (.vptr p f) (.str l)=[]) ∧
 (∀(p f:Nat) (v:Value),keep1 (.vptr p f) (.lit v)=[]) ∧
 (∀(p f:Nat),keep1 (.vptr p f) AV.nilsl=[]) ∧
 (∀(p f:Nat) (sz:Nat) (es:List AV),keep1 (.vptr p f) (.ro sz es)=[]) ∧
 (∀(p f:Nat) (x:AV),keep1 (.vptr p f) (.elt x)=[]) ∧
 (∀(p f:Nat) (i o n:Nat),keep1 (.vptr p f) (.sl i o n)=[]) ∧
 (∀(p f:Nat) (i j f:Nat),keep1 (.vptr p f) (.ptr i j f)=[]) ∧
 (∀(p f:Nat) (cs:List AV),keep1 (.vptr p f) (.agg cs)=[]) ∧
 (∀(p f:Nat) (cs:List AV),keep1 (.vptr p f) (.tup cs)=[]) ∧
 (∀(p f:Nat) (b:Bool) (x:AV),keep1 (.vptr p f) (.gd b x)=[]) ∧
 (∀(p f p' f':Nat),keep1 (.vptr p f) (.vptr p' f')=kB (p==p'&&f==f') [p]):=
 ⟨fun _=>rfl,fun _ _=>rfl,fun _ _ _=>rfl,fun _ _ _=>rfl,fun _ _ _ _=>rfl,fun _ _=>rfl,fun _ _=>rfl,fun _=>rfl,fun _ _ _=>rfl,fun _ _=>rfl,fun _ _ _ _=>rfl,fun _ _ _ _=>rfl,fun _ _=>rfl,fun _ _=>rfl,fun _ _ _=>rfl,fun _ _=>rfl,fun _ _ _=>rfl,fun _ _ _ _=>rfl,fun _ _ _ _=>rfl,fun _ _ _ _ _=>rfl,fun _ _ _=>rfl,fun _ _ _=>rfl,fun _ _=>rfl,fun _ _ _ _=>rfl,fun _ _ _=>rfl,fun _ _ _ _ _=>rfl,fun _ _ _ _ _=>rfl,fun _ _ _=>rfl,fun _ _ _=>rfl,fun _ _ _ _=>rfl,fun _ _ _ _=>rfl⟩
def bBk (b:Bool) (l:List (Nat×AV)):List (Nat×AV):=match b with
 | true=>l
 | false=>[]
theorem bBk_eqs (l:List (Nat×AV)):bBk true l=l∧bBk false l=[]:=⟨rfl,rfl⟩
def back1 (s:List (Nat×AV)) (h:HP) (k:Nat) (a:AV):List (Nat×AV):=match a with
 | .sl i o n=>bBk ((hget h i).isSome&&(sget s k).isSome) [(k,.sl i o n)]
 | _=>[]
theorem backS_t (s:List (Nat×AV)) (h:HP) (k:Nat) (xs:List AE) (a:AV) (as:List AV):backS s h (.t k::xs) (a::as)=back1 s h k a++backS s h xs as:=by
 cases a<;>simp only[backS,back1,List.nil_append]
 rename_i i o n
 cases h1:(hget h i).isSome<;>cases h2:(sget s k).isSome<;>simp[bBk]
theorem backS_c (s:List (Nat×AV)) (h:HP) (v:AV) (xs:List AE) (a:AV) (as:List AV):backS s h (.c v::xs) (a::as)=backS s h xs as:=by
 cases a<;>simp only[backS]
theorem backS_nil (s:List (Nat×AV)) (h:HP) (as:List AV):backS s h [] as=[]:=by simp[backS]
theorem back1_eqs:(∀(s:List (Nat×AV)) (h:HP) (k0:Nat),back1 s h k0 AV.undef=[]) ∧
 (∀(s:List (Nat×AV)) (h:HP) (k0:Nat) (b:Bool),back1 s h k0 (.bool b)=[]) ∧
 (∀(s:List (Nat×AV)) (h:HP) (k0:Nat) (k:IntKind) (n:Int),back1 s h k0 (.int k n)=[]) ∧
 (∀(s:List (Nat×AV)) (h:HP) (k0:Nat) (k:FloatKind) (n:Nat),back1 s h k0 (.fl k n)=[]) ∧
 (∀(s:List (Nat×AV)) (h:HP) (k0:Nat) (k:FloatKind) (m n:Nat),back1 s h k0 (.cx k m n)=[]) ∧
 (∀(s:List (Nat×AV)) (h:HP) (k0:Nat) (l:List UInt8),back1 s h k0 (.str l)=[]) ∧
 (∀(s:List (Nat×AV)) (h:HP) (k0:Nat) (v:Value),back1 s h k0 (.lit v)=[]) ∧
 (∀(s:List (Nat×AV)) (h:HP) (k0:Nat),back1 s h k0 AV.nilsl=[]) ∧
 (∀(s:List (Nat×AV)) (h:HP) (k0:Nat) (sz:Nat) (es:List AV),back1 s h k0 (.ro sz es)=[]) ∧
 (∀(s:List (Nat×AV)) (h:HP) (k0:Nat) (x:AV),back1 s h k0 (.elt x)=[]) ∧
 (∀(s:List (Nat×AV)) (h:HP) (k0:Nat) (i j f:Nat),back1 s h k0 (.ptr i j f)=[]) ∧
 (∀(s:List (Nat×AV)) (h:HP) (k0:Nat) (cs:List AV),back1 s h k0 (.agg cs)=[]) ∧
 (∀(s:List (Nat×AV)) (h:HP) (k0:Nat) (cs:List AV),back1 s h k0 (.tup cs)=[]) ∧
 (∀(s:List (Nat×AV)) (h:HP) (k0:Nat) (b:Bool) (x:AV),back1 s h k0 (.gd b x)=[]) ∧
 (∀(s:List (Nat×AV)) (h:HP) (k0:Nat) (i f:Nat),back1 s h k0 (.vptr i f)=[]) ∧
 (∀(s:List (Nat×AV)) (h:HP) (k0:Nat) (i o n:Nat),back1 s h k0 (.sl i o n)=bBk ((hget h i).isSome&&(sget s k0).isSome) [(k0,.sl i o n)]):=
 ⟨fun _ _ _=>rfl,fun _ _ _ _=>rfl,fun _ _ _ _ _=>rfl,fun _ _ _ _ _=>rfl,fun _ _ _ _ _ _=>rfl,fun _ _ _ _=>rfl,fun _ _ _ _=>rfl,fun _ _ _=>rfl,fun _ _ _ _ _=>rfl,fun _ _ _ _=>rfl,fun _ _ _ _ _ _=>rfl,fun _ _ _ _=>rfl,fun _ _ _ _=>rfl,fun _ _ _ _ _=>rfl,fun _ _ _ _ _=>rfl,fun _ _ _ _ _ _=>rfl⟩
theorem afterS_eq (st:St) (h:HP) (args:List AE) (h':HP) (as:List AV):afterS st h args h' as=⟨backS st.s h' args as++killSI (namesH h++namesH h') (keepL2 (args.map (ev st)) as) st.s,h'++dropH (namesH h++namesH h') (keepL2 (args.map (ev st)) as) st.h⟩:=(rfl)
theorem srcE_eqs (sz:Nat) (st:St):(∀l,srcE sz st (.str l)=ifS (sz==1) (some (l.map ub)) none)∧srcE sz st .nilsl=slE sz st .nilsl∧(∀sz' es,srcE sz st (.ro sz' es)=slE sz st (.ro sz' es))∧(∀id o n,srcE sz st (.sl id o n)=slE sz st (.sl id o n)):=
 ⟨fun l=>by rw[←ifS_ite];rfl,rfl,fun _ _=>rfl,fun _ _ _=>rfl⟩
theorem cellsOK_eq (x:AV):cellsOK x=(cellsOf x).all isCell:=(rfl)
theorem seg_eq {α:Type} (l:List α) (k:Nat) (s:List α):seg l k s=l.take k++s++l.drop (k+s.length):=(rfl)
theorem packC_eqs:(∀x,packC [x]=x)∧packC []=.agg []∧(∀x y r,packC (x::y::r)=.agg (x::y::r)):=⟨fun _=>rfl,rfl,fun _ _ _=>rfl⟩
theorem pick2_eqs (γ β:Bool) (x y:AV) :
 (∀p q,pick2 γ β x y (.bool p) (.bool q)=.ok ((γ=true→β=true→stripC true x)∧(γ=true→β=false→stripC true y)) (.bool (if β then p else q))) ∧
 (∀p,pick2 γ β x y (.bool p) .undef=.ok (γ=true→β=true∧stripC true x) (.bool p)) ∧
 (∀q,pick2 γ β x y .undef (.bool q)=.ok (γ=true→β=false∧stripC true y) (.bool q)):=⟨fun _ _=>rfl,fun _=>rfl,fun _=>rfl⟩
theorem pickR_eqs (γ β:Bool) (x y:AV):pickR γ (.bool β) x y=pick2 γ β x y (stripV x) (stripV y):=(rfl)
theorem keepR_eqs (st:St):(∀id o n,keepR st (.sl id o n)=keepSl st id o n (hget st.h id)) ∧
 (∀b,keepR st (.bool b)=.ok (noRef (.bool b)=true∧cellsOK (.bool b)=true) (.bool b) st) ∧
 (∀k n,keepR st (.int k n)=.ok (noRef (.int k n)=true∧cellsOK (.int k n)=true) (.int k n) st) ∧
 (∀k n,keepR st (.fl k n)=.ok (noRef (.fl k n)=true∧cellsOK (.fl k n)=true) (.fl k n) st) ∧
 (∀k a b,keepR st (.cx k a b)=.ok (noRef (.cx k a b)=true∧cellsOK (.cx k a b)=true) (.cx k a b) st) ∧
 (∀l,keepR st (.str l)=.ok (noRef (.str l)=true∧cellsOK (.str l)=true) (.str l) st) ∧
 (∀l,keepR st (.lit l)=.ok (noRef (.lit l)=true∧cellsOK (.lit l)=true) (.lit l) st) ∧
 (keepR st .nilsl=.ok (noRef .nilsl=true∧cellsOK .nilsl=true) .nilsl st) ∧
 (∀sz es,keepR st (.ro sz es)=.ok (noRef (.ro sz es)=true∧cellsOK (.ro sz es)=true) (.ro sz es) st) ∧
 (∀x,keepR st (.elt x)=.ok (noRef (.elt x)=true∧cellsOK (.elt x)=true) (.elt x) st) ∧
 (∀cs,keepR st (.agg cs)=.ok (noRef (.agg cs)=true∧cellsOK (.agg cs)=true) (.agg cs) st):=
 ⟨fun _ _ _=>rfl,fun _=>rfl,fun _ _=>rfl,fun _ _=>rfl,fun _ _ _=>rfl,fun _=>rfl,fun _=>rfl,rfl,fun _ _=>rfl,fun _=>rfl,fun _=>rfl⟩
theorem andR_eqs :
 (∀(c:Prop) d v,andR c (.ok d v)=.ok (c∧d) v) ∧
 (∀(c:Prop),andR c (.fail)=.fail):=
 ⟨(fun _ _ _=>rfl),(fun _=>rfl)⟩
theorem intR_eqs :
 (∀(γ:Bool) (k:IntKind) (k':IntKind) (x:Int) (y:Int),intR γ (.shl) k k' x y=.ok (γ=true→0≤y) (.int k (k.wrap (x*2^(min y.toNat k.bits))))) ∧
 (∀(γ:Bool) (k:IntKind) (k':IntKind) (x:Int) (y:Int),intR γ (.shr) k k' x y=.ok (γ=true→0≤y) (.int k (x.fdiv (2^(min y.toNat k.bits))))) ∧
 (∀(γ:Bool) (k:IntKind) (k':IntKind) (x:Int) (y:Int),intR γ (.add) k k' x y=.ok (k=k') (.int k (k.wrap (x+y)))) ∧
 (∀(γ:Bool) (k:IntKind) (k':IntKind) (x:Int) (y:Int),intR γ (.sub) k k' x y=.ok (k=k') (.int k (k.wrap (x-y)))) ∧
 (∀(γ:Bool) (k:IntKind) (k':IntKind) (x:Int) (y:Int),intR γ (.mul) k k' x y=.ok (k=k') (.int k (k.wrap (x*y)))) ∧
 (∀(γ:Bool) (k:IntKind) (k':IntKind) (x:Int) (y:Int),intR γ (.quo) k k' x y=.ok (k=k'∧(γ=true→y≠0)) (.int k (k.wrap (x.tdiv y)))) ∧
 (∀(γ:Bool) (k:IntKind) (k':IntKind) (x:Int) (y:Int),intR γ (.rem) k k' x y=.ok (k=k'∧(γ=true→y≠0)) (.int k (x.tmod y))) ∧
 (∀(γ:Bool) (k:IntKind) (k':IntKind) (x:Int) (y:Int),intR γ (.and) k k' x y=.ok (k=k') (.int k (bits .and k x y))) ∧
 (∀(γ:Bool) (k:IntKind) (k':IntKind) (x:Int) (y:Int),intR γ (.or) k k' x y=.ok (k=k') (.int k (bits .or k x y))) ∧
 (∀(γ:Bool) (k:IntKind) (k':IntKind) (x:Int) (y:Int),intR γ (.xor) k k' x y=.ok (k=k') (.int k (bits .xor k x y))) ∧
 (∀(γ:Bool) (k:IntKind) (k':IntKind) (x:Int) (y:Int),intR γ (.andNot) k k' x y=.ok (k=k') (.int k (bits .andNot k x y))) ∧
 (∀(γ:Bool) (k:IntKind) (k':IntKind) (x:Int) (y:Int),intR γ (.eql) k k' x y=.ok (k=k') (.bool (decide (x=y)))) ∧
 (∀(γ:Bool) (k:IntKind) (k':IntKind) (x:Int) (y:Int),intR γ (.neq) k k' x y=.ok (k=k') (.bool (!decide (x=y)))) ∧
 (∀(γ:Bool) (k:IntKind) (k':IntKind) (x:Int) (y:Int),intR γ (.lss) k k' x y=.ok (k=k') (.bool (decide (x<y)))) ∧
 (∀(γ:Bool) (k:IntKind) (k':IntKind) (x:Int) (y:Int),intR γ (.leq) k k' x y=.ok (k=k') (.bool (decide (x≤y)))) ∧
 (∀(γ:Bool) (k:IntKind) (k':IntKind) (x:Int) (y:Int),intR γ (.gtr) k k' x y=.ok (k=k') (.bool (decide (y<x)))) ∧
 (∀(γ:Bool) (k:IntKind) (k':IntKind) (x:Int) (y:Int),intR γ (.geq) k k' x y=.ok (k=k') (.bool (decide (y≤x)))):=
 ⟨(fun _ _ _ _ _=>rfl),(fun _ _ _ _ _=>rfl),(fun _ _ _ _ _=>rfl),(fun _ _ _ _ _=>rfl),(fun _ _ _ _ _=>rfl),(fun _ _ _ _ _=>rfl),(fun _ _ _ _ _=>rfl),(fun _ _ _ _ _=>rfl),(fun _ _ _ _ _=>rfl),(fun _ _ _ _ _=>rfl),(fun _ _ _ _ _=>rfl),(fun _ _ _ _ _=>rfl),(fun _ _ _ _ _=>rfl),(fun _ _ _ _ _=>rfl),(fun _ _ _ _ _=>rfl),(fun _ _ _ _ _=>rfl),(fun _ _ _ _ _=>rfl)⟩
theorem strR_eqs :
 (∀(γ:Bool) (x:List UInt8) (y:List UInt8),strR γ (.add) x y=.ok (γ=true→x.length+y.length≤9223372036854775807) (.str (x++y))) ∧
 (∀(γ:Bool) (x:List UInt8) (y:List UInt8),strR γ (.eql) x y=.ok True (.bool (x==y))) ∧
 (∀(γ:Bool) (x:List UInt8) (y:List UInt8),strR γ (.neq) x y=.ok True (.bool (!(x==y)))) ∧
 (∀(γ:Bool) (x:List UInt8) (y:List UInt8),strR γ (.lss) x y=.ok True (.bool (Op.bytesLess x y))) ∧
 (∀(γ:Bool) (x:List UInt8) (y:List UInt8),strR γ (.leq) x y=.ok True (.bool (Op.bytesLess x y||x==y))) ∧
 (∀(γ:Bool) (x:List UInt8) (y:List UInt8),strR γ (.gtr) x y=.ok True (.bool (!(Op.bytesLess x y||x==y)))) ∧
 (∀(γ:Bool) (x:List UInt8) (y:List UInt8),strR γ (.geq) x y=.ok True (.bool (!Op.bytesLess x y))):=
 ⟨(fun _ _ _=>rfl),(fun _ _ _=>rfl),(fun _ _ _=>rfl),(fun _ _ _=>rfl),(fun _ _ _=>rfl),(fun _ _ _=>rfl),(fun _ _ _=>rfl)⟩
theorem flR_eqs :
 (∀(k:FloatKind) (k':FloatKind) (x:Nat) (y:Nat),flR (.add) k k' x y=.ok (k=k'∧(k.format.add x y).isSome=true) (.fl k ((k.format.add x y).getD 0))) ∧
 (∀(k:FloatKind) (k':FloatKind) (x:Nat) (y:Nat),flR (.sub) k k' x y=.ok (k=k'∧(k.format.sub x y).isSome=true) (.fl k ((k.format.sub x y).getD 0))) ∧
 (∀(k:FloatKind) (k':FloatKind) (x:Nat) (y:Nat),flR (.mul) k k' x y=.ok (k=k'∧(k.format.mul x y).isSome=true) (.fl k ((k.format.mul x y).getD 0))) ∧
 (∀(k:FloatKind) (k':FloatKind) (x:Nat) (y:Nat),flR (.eql) k k' x y=.ok (k=k') (.bool (k.format.order x y==some .eq))) ∧
 (∀(k:FloatKind) (k':FloatKind) (x:Nat) (y:Nat),flR (.neq) k k' x y=.ok (k=k') (.bool (k.format.order x y != some .eq))) ∧
 (∀(k:FloatKind) (k':FloatKind) (x:Nat) (y:Nat),flR (.lss) k k' x y=.ok (k=k') (.bool (k.format.order x y==some .lt))) ∧
 (∀(k:FloatKind) (k':FloatKind) (x:Nat) (y:Nat),flR (.gtr) k k' x y=.ok (k=k') (.bool (k.format.order x y==some .gt))) ∧
 (∀(k:FloatKind) (k':FloatKind) (x:Nat) (y:Nat),flR (.leq) k k' x y=.ok (k=k') (.bool (k.format.order x y==some .lt||k.format.order x y==some .eq))) ∧
 (∀(k:FloatKind) (k':FloatKind) (x:Nat) (y:Nat),flR (.geq) k k' x y=.ok (k=k') (.bool (k.format.order x y==some .gt||k.format.order x y==some .eq))):=
 ⟨(fun _ _ _ _=>rfl),(fun _ _ _ _=>rfl),(fun _ _ _ _=>rfl),(fun _ _ _ _=>rfl),(fun _ _ _ _=>rfl),(fun _ _ _ _=>rfl),(fun _ _ _ _=>rfl),(fun _ _ _ _=>rfl),(fun _ _ _ _=>rfl)⟩
theorem cxR_eqs :
 (∀(k:FloatKind) (k':FloatKind) (a:Nat) (b:Nat) (c:Nat) (d:Nat),cxR (.add) k k' a b c d=.ok (k=k'∧(k.format.add a c).isSome=true∧(k.format.add b d).isSome=true) (.cx k ((k.format.add a c).getD 0) ((k.format.add b d).getD 0))) ∧
 (∀(k:FloatKind) (k':FloatKind) (a:Nat) (b:Nat) (c:Nat) (d:Nat),cxR (.sub) k k' a b c d=.ok (k=k'∧(k.format.sub a c).isSome=true∧(k.format.sub b d).isSome=true) (.cx k ((k.format.sub a c).getD 0) ((k.format.sub b d).getD 0))) ∧
 (∀(k:FloatKind) (k':FloatKind) (a:Nat) (b:Nat) (c:Nat) (d:Nat),cxR (.eql) k k' a b c d=.ok (k=k') (.bool (k.format.order a c==some .eq&&k.format.order b d==some .eq))) ∧
 (∀(k:FloatKind) (k':FloatKind) (a:Nat) (b:Nat) (c:Nat) (d:Nat),cxR (.neq) k k' a b c d=.ok (k=k') (.bool (!(k.format.order a c==some .eq&&k.format.order b d==some .eq)))):=
 ⟨(fun _ _ _ _ _ _=>rfl),(fun _ _ _ _ _ _=>rfl),(fun _ _ _ _ _ _=>rfl),(fun _ _ _ _ _ _=>rfl)⟩
theorem binR_eqs :
 (∀(γ:Bool) (op:BinOp) k a k' b,binR γ op (.int k a) (.int k' b)=intR γ op k k' a b) ∧
 (∀(γ:Bool) (op:BinOp) a b,binR γ op (.str a) (.str b)=strR γ op a b) ∧
 (∀(γ:Bool) (op:BinOp) k a k' b,binR γ op (.fl k a) (.fl k' b)=flR op k k' a b) ∧
 (∀(γ:Bool) (op:BinOp) k a b k' c d,binR γ op (.cx k a b) (.cx k' c d)=cxR op k k' a b c d):=
 ⟨(fun _ _ _ _ _ _=>rfl),(fun _ _ _ _=>rfl),(fun _ _ _ _ _ _=>rfl),(fun _ _ _ _ _ _ _ _=>rfl)⟩
theorem beqR_eqs :
 (∀(neg:Bool) a b,beqR neg (.bool a) (.bool b)=.ok True (.bool (if neg then !(a==b)else a==b))):=
 (fun _ _ _=>rfl)
theorem eqOK_eqs :
 (∀a b,eqOK 0 (.bool a) (.bool b)=true)∧(∀k a k' b,eqOK 1 (.int k a) (.int k' b)=(k==k'))∧(∀a b,eqOK 2 (.str a) (.str b)=true):=⟨(fun _ _=>rfl),(fun _ _ _ _=>rfl),(fun _ _=>rfl)⟩
theorem eqC_eqs :
 (∀a b,eqC (.bool a) (.bool b)=(a==b))∧(∀k a k' b,eqC (.int k a) (.int k' b)=decide (a=b))∧(∀a b,eqC (.str a) (.str b)=(a==b)):=⟨(fun _ _=>rfl),(fun _ _ _ _=>rfl),(fun _ _=>rfl)⟩
theorem ik_self (k:IntKind):(k==k)=true:=by cases k<;>decide
theorem eqOKs_nil:eqOKs [] [] []=true:=(rfl)
theorem eqOKs_cons (k:Nat) (ks:List Nat) (c:AV) (cs:List AV) (d:AV) (ds:List AV):eqOKs (k::ks) (c::cs) (d::ds)=(eqOK k c d&&eqOKs ks cs ds):=(rfl)
theorem eqCs_nil:eqCs [] []=true:=(rfl)
theorem eqCs_cons (c:AV) (cs:List AV) (d:AV) (ds:List AV):eqCs (c::cs) (d::ds)=(eqC c d&&eqCs cs ds):=(rfl)
theorem aeqR_eqs (γ neg:Bool) (ks:List Nat) (cs ds:List AV):aeqR γ neg ks (.agg cs) (.agg ds)=.ok (γ=true→eqOKs ks cs ds=true) (.bool (if neg then !(eqCs cs ds)else eqCs cs ds)):=(rfl)
theorem avalR_aeq (γ:Bool) (st:St) (neg:Bool) (ks:List Nat) (x y:AE):avalR γ st (.aeq neg ks x y)=andR (stripC γ (ev st x)) (andR (stripC γ (ev st y)) (aeqR γ neg ks (stripV (ev st x)) (stripV (ev st y)))):=(rfl)
theorem unR_eqs :
 (∀b,unR (.not) (.bool b)=.ok True (.bool (!b))) ∧
 (∀k n,unR (.neg) (.int k n)=.ok True (.int k (k.wrap (0-n)))) ∧
 (∀k n,unR (.xor) (.int k n)=.ok True (.int k (bits .xor k (if k.signed then -1 else k.max) n))):=
 ⟨(fun _=>rfl),(fun _ _=>rfl),(fun _ _=>rfl)⟩
theorem cviR_eqs :
 (∀(k:IntKind) u1 n,cviR k (.int u1 n)=.ok True (.int k (k.wrap n))):=
 (fun _ _ _=>rfl)
theorem cifR_eqs :
 (∀(k:FloatKind) u1 n,cifR k (.int u1 n)=.ok True (.fl k (k.nearest n))):=
 (fun _ _ _=>rfl)
theorem cfiR_eqs :
 (∀(γ:Bool) (k:IntKind) s b,cfiR γ k (.fl s b)=.ok (γ=true→(floatToIntVal s b k).isSome=true) (.int k ((floatToIntVal s b k).getD 0))):=
 (fun _ _ _ _=>rfl)
theorem cstR_eqs :
 (∀s,cstR (.str s)=.ok True (.str s)):=
 (fun _=>rfl)
theorem btsR_eqs :
 (∀(γ:Bool) es,btsR γ (some es)=.ok (γ=true→allB es=true) (.str (bytesOf es))) ∧
 (∀(γ:Bool),btsR γ (none)=.fail):=
 ⟨(fun _ _=>rfl),(fun _=>rfl)⟩
theorem cplxR_eqs :
 (∀k a k' b,cplxR (.fl k a) (.fl k' b)=.ok (k=k') (.cx k a b)):=
 (fun _ _ _ _=>rfl)
theorem reR_eqs :
 (∀k a u1,reR (.cx k a u1)=.ok True (.fl k a)):=
 (fun _ _ _=>rfl)
theorem imR_eqs :
 (∀k u1 b,imR (.cx k u1 b)=.ok True (.fl k b)):=
 (fun _ _ _=>rfl)
theorem lenR_eqs :
 (∀l,lenR (true) (.str l)=.ok True (.int .i64 l.length)) ∧
 (∀u1 es,lenR (false) (.ro u1 es)=.ok True (.int .i64 es.length)) ∧
 (∀u1 u2 n,lenR (false) (.sl u1 u2 n)=.ok True (.int .i64 n)) ∧
 (lenR (false) (.nilsl)=.ok True (.int .i64 0)):=
 ⟨(fun _=>rfl),(fun _ _=>rfl),(fun _ _ _=>rfl),rfl⟩
theorem mmR_eqs :
 (∀(mx:Bool) k a u1 b,mmR mx (.int k a) (.int u1 b)=.ok True (.int k (if mx then(if b > a then b else a)else(if b<a then b else a)))):=
 (fun _ _ _ _ _=>rfl)
theorem extR_eqs :
 (∀(i:Nat) vs,extR (.tup vs) i=.ok (i<vs.length) (vs.getD i .undef)):=
 (fun _ _=>rfl)
theorem nilcR_eqs :
 (∀e,nilcR (.elt e)=.ok True (.elt e)) ∧
 (∀id f,nilcR (.vptr id f)=.ok True (.vptr id f)):=
 ⟨(fun _=>rfl),(fun _ _=>rfl)⟩
theorem idxW_eqs :
 (∀(γ:Bool) (sz:Nat) (id:Nat) (off:Nat) (n:Nat) (i:Int) sz' u1,idxW γ sz (some (.arr sz' u1)) id off n i=.ok ((γ=true→0≤i∧i<n)∧0<sz∧sz'=sz) (.ptr id (off+i.toNat) 0)):=
 (fun _ _ _ _ _ _ _ _=>rfl)
theorem idxR_eqs :
 (∀(γ:Bool) (st:St) (sz:Nat) sz' es u1 i,idxR γ st sz (.ro sz' es) (.int u1 i)=.ok ((γ=true→0≤i∧i<es.length)∧0<sz∧sz'=sz) (.elt (nth es i.toNat))) ∧
 (∀(γ:Bool) (st:St) (sz:Nat) id off n u1 i,idxR γ st sz (.sl id off n) (.int u1 i)=idxW γ sz (hget st.h id) id off n i):=
 ⟨(fun _ _ _ _ _ _ _=>rfl),(fun _ _ _ _ _ _ _ _=>rfl)⟩
theorem sidxR_eqs :
 (∀(γ:Bool) l u1 i,sidxR γ (.str l) (.int u1 i)=.ok (γ=true→0≤i∧i<l.length) (.int .u8 (l.getD i.toNat 0).toNat)):=
 (fun _ _ _ _=>rfl)
theorem ldcR_eqs :
 (∀(γ:Bool) (n:Nat) (cs:List AV),ldcR γ (true) n cs=.ok (γ=true→n≤cs.length) (.agg (cs.take n))) ∧
 (∀(γ:Bool) (n:Nat) (cs:List AV),ldcR γ (false) n cs=.ok (γ=true→0<cs.length) (cs.getD 0 .undef)):=
 ⟨(fun _ _ _=>rfl),(fun _ _ _=>rfl)⟩
theorem ldA_eqs :
 (∀(γ:Bool) (ag:Bool) (n:Nat) (i:Nat) (f:Nat) u1 es,ldA γ ag n i f (some (.arr u1 es))=ldcR γ ag n ((cellsOf (nth es i)).drop f)):=
 (fun _ _ _ _ _ _ _=>rfl)
theorem ldV_eqs :
 (∀(γ:Bool) (ag:Bool) (n:Nat) (f:Nat) cs,ldV γ ag n f (some (.var cs))=ldcR γ ag n (cs.drop f)):=
 (fun _ _ _ _ _=>rfl)
theorem ldR_eqs :
 (∀(γ:Bool) (st:St) (ag:Bool) (n:Nat) e,ldR γ st ag n (.elt e)=ldcR γ ag n (cellsOf e)) ∧
 (∀(γ:Bool) (st:St) (ag:Bool) (n:Nat) id i f,ldR γ st ag n (.ptr id i f)=ldA γ ag n i f (hget st.h id)) ∧
 (∀(γ:Bool) (st:St) (ag:Bool) (n:Nat) id f,ldR γ st ag n (.vptr id f)=ldV γ ag n f (hget st.h id)):=
 ⟨(fun _ _ _ _ _=>rfl),(fun _ _ _ _ _ _ _=>rfl),(fun _ _ _ _ _ _=>rfl)⟩
theorem b1R_eqs :
 (∀(γ:Bool) (n:Nat) (c:Prop) u1 l,b1R γ n c (.int u1 l)=.ok (c∧(γ=true→0≤l∧l≤n)) l.toNat n):=
 (fun _ _ _ _ _=>rfl)
theorem b2R_eqs :
 (∀(γ:Bool) (n:Nat) (c:Prop) u1 h,b2R γ n c (.int u1 h)=.ok (c∧(γ=true→0≤h∧h≤n)) 0 h.toNat):=
 (fun _ _ _ _ _=>rfl)
theorem b3R_eqs :
 (∀(γ:Bool) (n:Nat) (c:Prop) (c':Prop) u1 l u2 h,b3R γ n c c' (.int u1 l) (.int u2 h)=.ok (c∧c'∧(γ=true→0≤l∧l≤h∧h≤n)) l.toNat h.toNat):=
 (fun _ _ _ _ _ _ _ _=>rfl)
theorem bndR_eqs :
 (∀(γ:Bool) (st:St) (n:Nat),bndR γ st n (none) (none)=.ok True 0 n) ∧
 (∀(γ:Bool) (st:St) (n:Nat) l,bndR γ st n (some l) (none)=b1R γ n (stripC γ (ev st l)) (stripV (ev st l))) ∧
 (∀(γ:Bool) (st:St) (n:Nat) h,bndR γ st n (none) (some h)=b2R γ n (stripC γ (ev st h)) (stripV (ev st h))) ∧
 (∀(γ:Bool) (st:St) (n:Nat) l h,bndR γ st n (some l) (some h)=b3R γ n (stripC γ (ev st l)) (stripC γ (ev st h)) (stripV (ev st l)) (stripV (ev st h))):=
 ⟨(fun _ _ _=>rfl),(fun _ _ _ _=>rfl),(fun _ _ _ _=>rfl),(fun _ _ _ _ _=>rfl)⟩
theorem slcStrR_eqs :
 (∀(s:List UInt8) c l h,slcStrR s (.ok c l h)=.ok c (.str ((s.drop l).take (h-l)))) ∧
 (∀(s:List UInt8),slcStrR s (.fail)=.fail):=
 ⟨(fun _ _ _ _=>rfl),(fun _=>rfl)⟩
theorem slcSR_eqs :
 (∀(γ:Bool) (st:St) (lo:Option AE) (hi:Option AE) s,slcSR γ st lo hi (.str s)=slcStrR s (bndR γ st s.length lo hi)):=
 (fun _ _ _ _ _=>rfl)
theorem slcNilR_eqs :
 (∀c u1 u2,slcNilR (.ok c u1 u2)=.ok c .nilsl) ∧
 (slcNilR (.fail)=.fail):=
 ⟨(fun _ _ _=>rfl),rfl⟩
theorem slcRoR_eqs :
 (∀(sz:Nat) (sz':Nat) (es:List AV) c l h,slcRoR sz sz' es (.ok c l h)=.ok (sz'=sz∧c) (.ro sz (sub3 es l (h-l)))) ∧
 (∀(sz:Nat) (sz':Nat) (es:List AV),slcRoR sz sz' es (.fail)=.fail):=
 ⟨(fun _ _ _ _ _ _=>rfl),(fun _ _ _=>rfl)⟩
theorem slcSlR_eqs :
 (∀(sz:Nat) (id:Nat) (off:Nat) c l h sz' u1,slcSlR sz id off (some (.arr sz' u1)) (.ok c l h)=.ok (c∧sz'=sz) (.sl id (off+l) (h-l))):=
 (fun _ _ _ _ _ _ _ _=>rfl)
theorem slcAR_eqs :
 (∀(γ:Bool) (st:St) (sz:Nat) (lo:Option AE) (hi:Option AE),slcAR γ st sz lo hi (.nilsl)=slcNilR (bndR γ st 0 lo hi)) ∧
 (∀(γ:Bool) (st:St) (sz:Nat) (lo:Option AE) (hi:Option AE) sz' es,slcAR γ st sz lo hi (.ro sz' es)=slcRoR sz sz' es (bndR γ st es.length lo hi)) ∧
 (∀(γ:Bool) (st:St) (sz:Nat) (lo:Option AE) (hi:Option AE) id off n,slcAR γ st sz lo hi (.sl id off n)=slcSlR sz id off (hget st.h id) (bndR γ st n lo hi)):=
 ⟨(fun _ _ _ _ _=>rfl),(fun _ _ _ _ _ _ _=>rfl),(fun _ _ _ _ _ _ _ _=>rfl)⟩
theorem fldW_eqs :
 (∀(off:Nat) (id:Nat) (i:Nat) (f:Nat) sz u1,fldW off (some (.arr sz u1)) id i f=.ok (f+off<sz) (.ptr id i (f+off))):=
 (fun _ _ _ _ _ _=>rfl)
theorem fldE_eqs :
 (∀(γ:Bool) (off:Nat) (n:Nat) (cs:List AV),fldE γ (true) off n cs=.ok ((γ=true→off+n≤cs.length)∧0<n) (.elt (.agg ((cs.drop off).take n)))) ∧
 (∀(γ:Bool) (off:Nat) (n:Nat) (cs:List AV),fldE γ (false) off n cs=.ok ((γ=true→off+n≤cs.length)∧0<n∧n=1∧isCell (cs.getD off .undef)=true) (.elt (cs.getD off .undef))):=
 ⟨(fun _ _ _ _=>rfl),(fun _ _ _ _=>rfl)⟩
theorem fldAR_eqs :
 (∀(γ:Bool) (st:St) (ag:Bool) (off:Nat) (n:Nat) e,fldAR γ st ag off n (.elt e)=fldE γ ag off n (cellsOf e)) ∧
 (∀(γ:Bool) (st:St) (ag:Bool) (off:Nat) (n:Nat) id i f,fldAR γ st ag off n (.ptr id i f)=fldW off (hget st.h id) id i f) ∧
 (∀(γ:Bool) (st:St) (ag:Bool) (off:Nat) (n:Nat) id f,fldAR γ st ag off n (.vptr id f)=.ok True (.vptr id (f+off))):=
 ⟨(fun _ _ _ _ _ _=>rfl),(fun _ _ _ _ _ _ _ _=>rfl),(fun _ _ _ _ _ _ _=>rfl)⟩
theorem fldR_eqs :
 (∀(γ:Bool) (ag:Bool) (off:Nat) (n:Nat) cs,fldR γ ag off n (.agg cs)=.ok ((γ=true→off+n≤cs.length)∧0<n) (if ag then .agg ((cs.drop off).take n)else cs.getD off .undef)):=
 (fun _ _ _ _ _=>rfl)
theorem avalR_eqs :
 (∀(γ:Bool) (st:St) x,avalR γ st (.mov x)=andR (stripC γ (ev st x)) (.ok True (stripV (ev st x)))) ∧
 (∀(γ:Bool) (st:St) c x y,avalR γ st (.pick c x y)=andR (stripC γ (ev st c)) (pickR γ (stripV (ev st c)) (ev st x) (ev st y))) ∧
 (∀(γ:Bool) (st:St) op x y,avalR γ st (.bin op x y)=andR (stripC γ (ev st x)) (andR (stripC γ (ev st y)) (binR γ op (stripV (ev st x)) (stripV (ev st y))))) ∧
 (∀(γ:Bool) (st:St) neg x y,avalR γ st (.beq neg x y)=andR (stripC γ (ev st x)) (andR (stripC γ (ev st y)) (beqR neg (stripV (ev st x)) (stripV (ev st y))))) ∧
 (∀(γ:Bool) (st:St) op x,avalR γ st (.un op x)=andR (stripC γ (ev st x)) (unR op (stripV (ev st x)))) ∧
 (∀(γ:Bool) (st:St) k x,avalR γ st (.cvi k x)=andR (stripC γ (ev st x)) (cviR k (stripV (ev st x)))) ∧
 (∀(γ:Bool) (st:St) k x,avalR γ st (.cif k x)=andR (stripC γ (ev st x)) (cifR k (stripV (ev st x)))) ∧
 (∀(γ:Bool) (st:St) k x,avalR γ st (.cfi k x)=andR (stripC γ (ev st x)) (cfiR γ k (stripV (ev st x)))) ∧
 (∀(γ:Bool) (st:St) x,avalR γ st (.cst x)=andR (stripC γ (ev st x)) (cstR (stripV (ev st x)))) ∧
 (∀(γ:Bool) (st:St) x,avalR γ st (.bts x)=andR (stripC γ (ev st x)) (btsR γ (slE 1 st (stripV (ev st x))))) ∧
 (∀(γ:Bool) (st:St) x y,avalR γ st (.cplx x y)=andR (stripC γ (ev st x)) (andR (stripC γ (ev st y)) (cplxR (stripV (ev st x)) (stripV (ev st y))))) ∧
 (∀(γ:Bool) (st:St) x,avalR γ st (.re x)=andR (stripC γ (ev st x)) (reR (stripV (ev st x)))) ∧
 (∀(γ:Bool) (st:St) x,avalR γ st (.im x)=andR (stripC γ (ev st x)) (imR (stripV (ev st x)))) ∧
 (∀(γ:Bool) (st:St) str x,avalR γ st (.len str x)=andR (stripC γ (ev st x)) (lenR str (stripV (ev st x)))) ∧
 (∀(γ:Bool) (st:St) mx x y,avalR γ st (.mm mx x y)=andR (stripC γ (ev st x)) (andR (stripC γ (ev st y)) (mmR mx (stripV (ev st x)) (stripV (ev st y))))) ∧
 (∀(γ:Bool) (st:St) x i,avalR γ st (.ext x i)=andR (stripC γ (ev st x)) (extR (stripV (ev st x)) i)) ∧
 (∀(γ:Bool) (st:St) x,avalR γ st (.nilc x)=andR (stripC γ (ev st x)) (nilcR (stripV (ev st x)))) ∧
 (∀(γ:Bool) (st:St) sz x i,avalR γ st (.idxA sz x i)=andR (stripC γ (ev st x)) (andR (stripC γ (ev st i)) (idxR γ st sz (stripV (ev st x)) (stripV (ev st i))))) ∧
 (∀(γ:Bool) (st:St) x i,avalR γ st (.sidx x i)=andR (stripC γ (ev st x)) (andR (stripC γ (ev st i)) (sidxR γ (stripV (ev st x)) (stripV (ev st i))))) ∧
 (∀(γ:Bool) (st:St) ag n x,avalR γ st (.ld ag n x)=andR (stripC γ (ev st x)) (ldR γ st ag n (stripV (ev st x)))) ∧
 (∀(γ:Bool) (st:St) x lo hi,avalR γ st (.slcS x lo hi)=andR (stripC γ (ev st x)) (slcSR γ st lo hi (stripV (ev st x)))) ∧
 (∀(γ:Bool) (st:St) sz x lo hi,avalR γ st (.slcA sz x lo hi)=andR (stripC γ (ev st x)) (slcAR γ st sz lo hi (stripV (ev st x)))) ∧
 (∀(γ:Bool) (st:St) ag off n x,avalR γ st (.fldA ag off n x)=andR (stripC γ (ev st x)) (fldAR γ st ag off n (stripV (ev st x)))) ∧
 (∀(γ:Bool) (st:St) ag off n x,avalR γ st (.fld ag off n x)=andR (stripC γ (ev st x)) (fldR γ ag off n (stripV (ev st x)))):=
 ⟨(fun _ _ _=>rfl),(fun _ _ _ _ _=>rfl),(fun _ _ _ _ _=>rfl),(fun _ _ _ _ _=>rfl),(fun _ _ _ _=>rfl),(fun _ _ _ _=>rfl),(fun _ _ _ _=>rfl),(fun _ _ _ _=>rfl),(fun _ _ _=>rfl),(fun _ _ _=>rfl),(fun _ _ _ _=>rfl),(fun _ _ _=>rfl),(fun _ _ _=>rfl),(fun _ _ _ _=>rfl),(fun _ _ _ _ _=>rfl),(fun _ _ _ _=>rfl),(fun _ _ _=>rfl),(fun _ _ _ _ _=>rfl),(fun _ _ _ _=>rfl),(fun _ _ _ _ _=>rfl),(fun _ _ _ _ _=>rfl),(fun _ _ _ _ _ _=>rfl),(fun _ _ _ _ _ _=>rfl),(fun _ _ _ _ _ _=>rfl)⟩
theorem bldR_nil (γ:Bool) (st:St) (cs:List AV):bldR γ st [] cs=.ok True (.agg cs):=(rfl)
theorem bldR_cons (γ:Bool) (st:St) (o n:Nat) (x:AE) (r:List (Nat×Nat×AE)) (cs:List AV) :
    bldR γ st ((o,n,x)::r) cs=andR (stripC γ (ev st x)) (andR (γ=true→cellsOK (stripV (ev st x))=true∧(cellsOf (stripV (ev st x))).length=n∧o+n≤cs.length) (bldR γ st r (cs.take o++cellsOf (stripV (ev st x))++cs.drop (o+n)))):=(rfl)
theorem avalR_bld (γ:Bool) (st:St) (z:List AV) (ps:List (Nat×Nat×AE)):avalR γ st (.bld z ps)=bldR γ st ps z:=(rfl)
theorem avalR_idxP (γ:Bool) (st:St) (len sz:Nat) (x i:AE):avalR γ st (.idxP len sz x i)=andR (stripC γ (ev st x)) (andR (stripC γ (ev st i)) (idxPR γ len sz (stripV (ev st x)) (stripV (ev st i)))):=(rfl)
theorem avalR_idxV (γ:Bool) (st:St) (len:Nat) (x i:AE):avalR γ st (.idxV len x i)=andR (stripC γ (ev st x)) (andR (stripC γ (ev st i)) (idxVR γ len (stripV (ev st x)) (stripV (ev st i)))):=(rfl)
theorem avalR_snil (γ:Bool) (st:St) (neg:Bool) (x:AE):avalR γ st (.snil neg x)=andR (stripC γ (ev st x)) (snilR γ st neg (stripV (ev st x))):=(rfl)
theorem idxPR_elt (γ:Bool) (len sz:Nat) (cs:List AV) (k:IntKind) (i:Int):idxPR γ len sz (.elt (.agg cs)) (.int k i)=.ok ((γ=true→0≤i∧i<len∧i<cs.length)∧sz=1∧isCell (cs.getD i.toNat .undef)=true) (.elt (cs.getD i.toNat .undef)):=(rfl)
theorem idxPR_eq (γ:Bool) (len sz id f:Nat) (k:IntKind) (i:Int):idxPR γ len sz (.vptr id f) (.int k i)=.ok (γ=true→0≤i∧i<len) (.vptr id (f+i.toNat*sz)):=(rfl)
theorem idxVR_eq (γ:Bool) (len:Nat) (cs:List AV) (k:IntKind) (i:Int):idxVR γ len (.agg cs) (.int k i)=.ok (γ=true→0≤i∧i<len∧i<cs.length) (cs.getD i.toNat .undef):=(rfl)
theorem snilW_eq (γ neg:Bool) (n sz:Nat) (es:List AV):snilW γ neg n (some (.arr sz es))=.ok (γ=true→0<n) (.bool neg):=(rfl)
theorem avalR_inil (γ:Bool) (st:St) (neg:Bool) (x:AE):avalR γ st (.inil neg x)=andR (stripC γ (ev st x)) (inilR γ neg (stripV (ev st x))):=(rfl)
theorem avalR_mki (γ:Bool) (st:St) (t:TypeId) (x:AE):avalR γ st (.mki t x)=andR (stripC γ (ev st x)) (mkiR t (stripV (ev st x))):=(rfl)
theorem avalR_cvs (γ:Bool) (st:St) (x:AE):avalR γ st (.cvs x)=andR (stripC γ (ev st x)) (cvsR (stripV (ev st x))):=(rfl)
def mapE (st:St):List AE→List AV
 | []=>[]
 | x::r=>ev st x::mapE st r
theorem mapE_eq (st:St):∀l,l.map (ev st)=mapE st l
 | []=>rfl
 | x::r=>by rw[List.map_cons,mapE_eq st r];rfl
theorem mapE_eqs (st:St):mapE st []=[]∧(∀x r,mapE st (x::r)=ev st x::mapE st r):=⟨rfl,fun _ _=>rfl⟩
theorem vpL_eqs:vpL []=true∧(∀i f r,vpL (.vptr i f::r)=vpL r):=⟨rfl,fun _ _ _=>rfl⟩
theorem avalR_mkf (γ:Bool) (st:St) (f:Nat) (xs:List AE):avalR γ st (.mkf f xs)=.ok (vpL (mapE st xs)=true) (.clo f (mapE st xs)):=by rw[←mapE_eq];rfl
theorem keep1_clo (f:Nat) (cs:List AV) (a:AV):keep1 (.clo f cs) a=[]:=(rfl)
theorem keep1_vclo (p f g:Nat) (cs:List AV):keep1 (.vptr p f) (.clo g cs)=[]:=(rfl)
theorem back1_clo (s:List (Nat×AV)) (h:HP) (k0 f:Nat) (cs:List AV):back1 s h k0 (.clo f cs)=[]:=(rfl)
theorem cvsR_int (k:IntKind) (n:Int):cvsR (.int k n)=.ok True (.str (Utf8.encode n).data.toList):=(rfl)
theorem mkiR_nil (t:TypeId):mkiR t (.agg [])=.ok True (.lit (.iface t (.agg #[]))):=(rfl)
theorem mkiR_int (t:TypeId) (k:IntKind) (n:Int):mkiR t (.int k n)=.ok True (.lit (.iface t (.int k n))):=(rfl)
theorem mksR_int (id:Nat) (st:St) (sz bytes:Nat) (z:List AV) (n m:Int):mksR id st sz bytes z (.int .i64 n) (.int .i64 m)=.ok (0≤n∧m=n∧n≤16777216∧n*bytes≤16777216∧z.all noRefC=true∧z.length=sz) (.sl id 0 n.toNat) (newW st id (.arr sz (List.replicate n.toNat (packC z)))):=(rfl)
theorem avalR_pnil (γ:Bool) (st:St) (neg:Bool) (x:AE):avalR γ st (.pnil neg x)=andR (stripC γ (ev st x)) (pnilR neg (stripV (ev st x))):=(rfl)
theorem pnilR_elt (neg:Bool) (x:AV):pnilR neg (.elt x)=.ok True (.bool neg):=(rfl)
theorem pnilR_vptr (neg:Bool) (i f:Nat):pnilR neg (.vptr i f)=.ok True (.bool neg):=(rfl)
theorem pnilR_nil (neg:Bool):pnilR neg (.lit (.pointer none))=.ok True (.bool (!neg)):=(rfl)
theorem inilR_nil (γ neg:Bool):inilR γ neg (.lit .nilIface)=.ok True (.bool (if neg then false else true)):=by cases neg<;>simp[inilR,isNilV,isIfV]
theorem inilR_if (γ neg:Bool) (t:TypeId) (v:Value):inilR γ neg (.lit (.iface t v))=.ok True (.bool (if neg then true else false)):=by cases neg<;>simp[inilR,isNilV,isIfV]
theorem avalR_mlk (γ:Bool) (st:St) kd ok z (x i:AE):avalR γ st (.mlk kd ok z x i)=andR (stripC γ (ev st x)) (andR (stripC γ (ev st i)) (mlkR st kd ok z (stripV (ev st x)) (stripV (ev st i)))):=(rfl)
theorem mkOf_str (l:List UInt8):mkOf (.str l)=some (.s l):=(rfl)
theorem mkOf_int (k:IntKind) (n:Int):mkOf (.int k n)=some (.i k n):=(rfl)
theorem mlkR_ptr (st:St) kd ok z id i f (x:AV):mlkR st kd ok z (.ptr id i f) x=mlkK st kd ok z id (mkOf x):=(rfl)
theorem mlkK_some (st:St) kd ok z id k:mlkK st kd ok z id (some k)=mlkW kd ok z k (hget st.h id):=(rfl)
theorem mlkW_mp kd ok z k kd' (l:List (MK×AV)):mlkW kd ok z k (some (.mp kd' l))=.ok (kd'=kd∧MK.ok kd k) (mres ok z (mfind l k)):=(rfl)
theorem mres_t (z:AV) (o:Option AV):mres true z o=.tup [o.getD z,.bool o.isSome]:=(rfl)
theorem mres_f (z:AV) (o:Option AV):mres false z o=o.getD z:=(rfl)
theorem MKok_s (b:List UInt8):MK.ok none (.s b)=True:=(rfl)
theorem MKok_i (k k':IntKind) (n:Int):MK.ok (some k) (.i k' n)=(k'=k):=(rfl)
theorem mupR_ptr (st:St) kd id i f (k v:AV):mupR st kd (.ptr id i f) k v=mupK st id kd (mkOf k) v:=(rfl)
theorem mupK_some (st:St) id kd k (v:AV):mupK st id kd (some k) v=mupW st id kd k v (hget st.h id):=(rfl)
theorem mupW_mp (st:St) id kd k (v:AV) kd' (l:List (MK×AV)):mupW st id kd k v (some (.mp kd' l))=.ok (kd'=kd∧MK.ok kd k∧noRef v=true) .undef ⟨st.s,hset st.h id (.mp kd (mput l k v))⟩:=(rfl)
theorem effR_mkm (id:Nat) (st:St) kd:effR id st (.mkm kd)=.ok True (.ptr id 0 0) (newW st id (.mp kd [])):=(rfl)
theorem effR_mup (id:Nat) (st:St) kd x k v:effR id st (.mup kd x k v)=mupR st kd (ev st x) (ev st k) (ev st v):=(rfl)
theorem snilR_eqs :
 (∀(γ:Bool) (st:St) (neg:Bool),snilR γ st neg (.nilsl)=.ok True (.bool (!neg))) ∧
 (∀(γ:Bool) (st:St) (neg:Bool) id o n,snilR γ st neg (.sl id o n)=snilW γ neg n (hget st.h id)) ∧
 (∀(γ:Bool) (st:St) (neg:Bool) sz es,snilR γ st neg (.ro sz es)=.ok (γ=true→0<es.length∧0<sz) (.bool neg)):=
 ⟨(fun _ _ _=>rfl),(fun _ _ _ _ _ _=>rfl),(fun _ _ _ _ _=>rfl)⟩
theorem keepSl_eqs :
 (∀(st:St) (id:Nat) (o:Nat) (n:Nat) sz es,keepSl st id o n (some (.arr sz es))=.ok True (.ro sz (sub3 es o n)) (freeze st id)):=
 (fun _ _ _ _ _ _=>rfl)
theorem rl2_eqs :
 (∀(c:Prop) (v:AV) d vs st,rl2 c v (.ok d vs st)=.ok (c∧d) (v::vs) st) ∧
 (∀(c:Prop) (v:AV),rl2 c v (.fail)=.fail):=
 ⟨(fun _ _ _ _ _=>rfl),(fun _ _=>rfl)⟩
theorem rl1_eqs :
 (∀(r:List AE) c v st1,rl1 r (.ok c v st1)=rl2 c v (keepLR r st1)) ∧
 (∀(r:List AE),rl1 r (.fail)=.fail):=
 ⟨(fun _ _ _ _=>rfl),(fun _=>rfl)⟩
theorem bslR_eqs :
 (∀(id:Nat) (sz:Nat) c es st',bslR id sz (.ok c es st')=.ok (c∧es.all (fun e=>(cellsOf e).length==sz)=true) (.sl id 0 es.length) (newW st' id (.arr sz es))) ∧
 (∀(id:Nat) (sz:Nat),bslR id sz (.fail)=.fail):=
 ⟨(fun _ _ _ _ _=>rfl),(fun _ _=>rfl)⟩
theorem appW_eqs :
 (∀(st:St) (sz:Nat) (bytes:Nat) (id:Nat) (off:Nat) (n:Nat) (xs:List AV) sz' es,appW st sz bytes id off n xs (some (.arr sz' es))=.ok (xs.all cellsOK=true∧sz'=sz∧(sub3 es off n).all cellsOK=true∧(n+xs.length)*bytes≤140737488355328∧n+xs.length≤9223372036854775807) (.sl id 0 (n+xs.length)) (newW st id (.arr sz (sub3 es off n++xs)))):=
 (fun _ _ _ _ _ _ _ _ _=>rfl)
theorem appR_eqs :
 (∀(d:Nat) (st:St) (sz:Nat) (bytes:Nat) xs,appR d st sz bytes (.nilsl) (some xs)=.ok (xs.all cellsOK=true∧xs.length*bytes≤140737488355328∧xs.length≤9223372036854775807) (.sl d 0 xs.length) (newW st d (.arr sz xs))) ∧
 (∀(d:Nat) (st:St) (sz:Nat) (bytes:Nat) xs id off n,appR d st sz bytes (.sl id off n) (some xs)=appW st sz bytes id off n xs (hget st.h id)):=
 ⟨(fun _ _ _ _ _=>rfl),(fun _ _ _ _ _ _ _ _=>rfl)⟩
theorem stW_eqs :
 (∀(st:St) (n:Nat) (id:Nat) (i:Nat) (f:Nat) (v:AV) sz es,stW st n id i f v (some (.arr sz es))=.ok ((cellsOf v).length=n∧0<n∧f+n≤sz) .undef ⟨st.s,hset st.h id (.arr sz (es.set i (setEl (nth es i) f v)))⟩):=
 (fun _ _ _ _ _ _ _ _=>rfl)
theorem stP2_eqs :
 (∀(n:Nat) (id:Nat) (i:Nat) (f:Nat) (c:Prop) (v:AV) (st:St) d u st',stP2 n id i f c v st (.ok d u st')=.ok (c∧d) u st') ∧
 (∀(n:Nat) (id:Nat) (i:Nat) (f:Nat) (c:Prop) (v:AV) (st:St),stP2 n id i f c v st (.fail)=.fail):=
 ⟨(fun _ _ _ _ _ _ _ _ _ _=>rfl),(fun _ _ _ _ _ _ _=>rfl)⟩
theorem stP_eqs :
 (∀(n:Nat) (id:Nat) (i:Nat) (f:Nat) c v st,stP n id i f (.ok c v st)=stP2 n id i f c v st (stW st n id i f v (hget st.h id))) ∧
 (∀(n:Nat) (id:Nat) (i:Nat) (f:Nat),stP n id i f (.fail)=.fail):=
 ⟨(fun _ _ _ _ _ _ _=>rfl),(fun _ _ _ _=>rfl)⟩
theorem stV_eqs :
 (∀(st:St) (n:Nat) (id:Nat) (f:Nat) (v:AV) cs,stV st n id f v (some (.var cs))=.ok (cellsOK v=true∧(cellsOf v).length=n∧f+n≤cs.length) .undef ⟨st.s,hset st.h id (.var (seg cs f (cellsOf v)))⟩):=
 (fun _ _ _ _ _ _=>rfl)
theorem stR_eqs :
 (∀(st:St) (n:Nat) (v:AV) id i f,stR st n (.ptr id i f) v=stP n id i f (keepR st v)) ∧
 (∀(st:St) (n:Nat) (v:AV) id f,stR st n (.vptr id f) v=stV st n id f v (hget st.h id)):=
 ⟨(fun _ _ _ _ _ _=>rfl),(fun _ _ _ _ _=>rfl)⟩
theorem stbR_eqs :
 (∀(st:St) (id:Nat) l,stbR st id (.str l)=.ok True (.sl id 0 l.length) (newW st id (.arr 1 (l.map ub)))):=
 (fun _ _ _=>rfl)
theorem effR_eqs :
 (∀(id:Nat) (st:St) z,effR id st (.alloc z)=.ok (z.all noRefC=true) (.vptr id 0) (newW st id (.var (z.map (killC id))))) ∧
 (∀(id:Nat) (st:St) n x,effR id st (.box n x)=.ok (cellsOK (ev st x)=true∧(cellsOf (ev st x)).length=n) (.vptr id 0) (newW st id (.var ((cellsOf (ev st x)).map (killC id))))) ∧
 (∀(id:Nat) (st:St) sz xs,effR id st (.bsl sz xs)=bslR id sz (keepLR xs st)) ∧
 (∀(id:Nat) (st:St) sz bytes s x,effR id st (.app sz bytes s x)=appR id st sz bytes (ev st s) (srcE sz st (ev st x))) ∧
 (∀(id:Nat) (st:St) n x v,effR id st (.st n x v)=stR st n (ev st x) (ev st v)) ∧
 (∀(id:Nat) (st:St) sz b z l c,effR id st (.mks sz b z l c)=mksR id st sz b z (ev st l) (ev st c)) ∧
 (∀(id:Nat) (st:St) x,effR id st (.stb x)=stbR st id (ev st x)):=
 ⟨(fun _ _ _=>rfl),(fun _ _ _ _=>rfl),(fun _ _ _ _=>rfl),(fun _ _ _ _ _ _=>rfl),(fun _ _ _ _ _=>rfl),(fun _ _ _ _ _ _ _=>rfl),(fun _ _ _=>rfl)⟩
attribute [go_sem] avalR_pnil pnilR_elt pnilR_vptr pnilR_nil avalR_mlk mkOf_str mkOf_int mlkR_ptr mlkK_some mlkW_mp mres_t mres_f MKok_s MKok_i mupR_ptr mupK_some mupW_mp effR_mkm effR_mup Option.isSome_some Option.isSome_none Option.getD_some Option.getD_none mapE_eqs vpL_eqs avalR_mkf keep1_clo keep1_vclo back1_clo ev_eqs put_eqs grd_eqs newW_eq killW_eqs frzW_eqs renW_eqs kWI_eqs inW_eqs flW_eqs inH_eqs flH_eqs namesH_eqs numbered_eqs renS_eqs renH_eqs stRen_eq stNil_eq stNilV_eq ifS_t ifS_f slO_some kB_eqs keepL2_cons keepL2_nil keepL2_nil' keep1_eqs bBk_eqs backS_t backS_c backS_nil back1_eqs afterS_eq srcE_eqs slE_eqs cellsOK_eq seg_eq packC_eqs pick2_eqs pickR_eqs keepR_eqs andR_eqs intR_eqs strR_eqs flR_eqs cxR_eqs binR_eqs beqR_eqs eqOK_eqs ik_self eqC_eqs eqOKs_nil eqOKs_cons eqCs_nil eqCs_cons aeqR_eqs avalR_aeq unR_eqs cviR_eqs cifR_eqs cfiR_eqs cstR_eqs btsR_eqs cplxR_eqs reR_eqs imR_eqs lenR_eqs mmR_eqs extR_eqs nilcR_eqs idxW_eqs idxR_eqs sidxR_eqs ldcR_eqs ldA_eqs ldV_eqs ldR_eqs b1R_eqs b2R_eqs b3R_eqs bndR_eqs slcStrR_eqs slcSR_eqs slcNilR_eqs slcRoR_eqs slcSlR_eqs slcAR_eqs fldW_eqs fldE_eqs fldAR_eqs fldR_eqs avalR_eqs bldR_nil bldR_cons avalR_bld avalR_idxP avalR_idxV avalR_snil idxPR_eq idxPR_elt idxVR_eq snilW_eq snilR_eqs avalR_inil inilR_nil inilR_if avalR_mki mkiR_nil mkiR_int mksR_int avalR_cvs cvsR_int keepSl_eqs rl2_eqs rl1_eqs bslR_eqs appW_eqs appR_eqs stW_eqs stP2_eqs stP_eqs stV_eqs stR_eqs stbR_eqs effR_eqs cu_t cu_f selB_t selB_f borSl_some keepO_some keepO_none borV_some killC_eqs killA_eqs kill_eqs frzC_eqs frzA_eqs frz_eqs renC_eqs renA_eqs renX_eqs kcI_eqs kaI_eqs kI_eqs borrowC_eqs borrow_eqs bcell_eqs borC_eqs bor_eqs noRefC_eqs flC_eqs isCell_eqs noRef_eqs noRefT_eqs flA_eqs flT_eqs frC_eqs frA_eqs flI_eqs inC_eqs inA_eqs inT_eqs stripV_eqs stripC_eqs
end Go.Proofs.YthmkimlfnkghmaaGreatDoor.Eng
