/- The proof, part 1 of 42. -/
import Derived.WalkKit
import Derived.Lib.ItoaNum
set_option linter.all false
namespace Go.Proofs.YtoalcafkffmiiaaGreatDoor.Eng
def isIfV:Value→Bool
 | .nilIface=>true
 | .iface _ _=>true
 | _=>false
def kX:List (Nat×(Array Value→Prop)):=
 []
 ++ [(5,fun cs=>cs=(Go.Lib.pow10Tab.map fun z=>Value.int .u64 z).toArray)]
 ++ [(3,fun cs=>∃v,cs=#[v]∧isIfV v=true)]
 ++ [(4,fun cs=>∃v,cs=#[v]∧isIfV v=true)]
 ++ [(0,fun cs=>∃m:Int,cs[0]?=some (.int .i64 m))]
def tE (b:Nat):Prop:=∃q∈kX,q.1=b
def iD (w:World):Prop:=∀q∈kX,∃cs t fz,w.heap[q.1]?=some (.cells cs t fz)∧q.2 cs
theorem iD.stays {w w':World} (h:iD w) (hw:∀b cs t fz,tE b→w.heap[b]?=some (.cells cs t fz)→w'.heap[b]?=w.heap[b]?):iD w':=by
 intro q hq
 obtain⟨cs,t,fz,h1,h2⟩:=h q hq
 exact⟨cs,t,fz,(hw _ _ _ _ ⟨q,hq,rfl⟩ h1).trans h1,h2⟩
theorem iD.lt {w:World} (h:iD w) {b:Nat} (hb:tE b):b<w.heap.size:=by
 obtain⟨q,hq,rfl⟩:=hb
 obtain⟨cs,t,fz,h1,_⟩:=h q hq
 exact(Array.getElem?_eq_some_iff.1 h1).1
def iE (F:Nat→Prop) (w:World):Prop:=iD w∧∀b,tE b→¬F b
theorem iE.mono {F F':Nat→Prop} {w:World} (h:iE F w) (hF:∀b,F' b→F b):iE F' w:=⟨h.1,fun b hb hx=>h.2 b hb (hF b hx)⟩
end Go.Proofs.YtoalcafkffmiiaaGreatDoor.Eng
