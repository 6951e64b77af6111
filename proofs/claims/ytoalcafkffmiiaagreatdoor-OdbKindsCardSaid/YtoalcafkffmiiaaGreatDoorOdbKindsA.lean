/- The proof, part 1 of 42. -/
import Derived.WalkKit
import Derived.Lib.ItoaNum
set_option linter.all false
namespace Go.Proofs.YtoalcafkffmiiaaGreatDoor.Eng
def isIfV:Value→Bool
 | .nilIface=>true
 | .iface _ _=>true
 | _=>false
def kN:List (Nat×(Array Value→Prop)):=
 []
 ++ [(5,fun cs=>cs=(Go.Lib.pow10Tab.map fun z=>Value.int .u64 z).toArray)]
 ++ [(3,fun cs=>∃v,cs=#[v]∧isIfV v=true)]
 ++ [(4,fun cs=>∃v,cs=#[v]∧isIfV v=true)]
 ++ [(0,fun cs=>∃m:Int,cs[0]?=some (.int .i64 m))]
def tq (b:Nat):Prop:=∃q∈kN,q.1=b
def ik (w:World):Prop:=∀q∈kN,∃cs t fz,w.heap[q.1]?=some (.cells cs t fz)∧q.2 cs
theorem ik.stays {w w':World} (h:ik w) (hw:∀b cs t fz,tq b→w.heap[b]?=some (.cells cs t fz)→w'.heap[b]?=w.heap[b]?):ik w':=by
 intro q hq
 obtain⟨cs,t,fz,h1,h2⟩:=h q hq
 exact⟨cs,t,fz,(hw _ _ _ _ ⟨q,hq,rfl⟩ h1).trans h1,h2⟩
theorem ik.lt {w:World} (h:ik w) {b:Nat} (hb:tq b):b<w.heap.size:=by
 obtain⟨q,hq,rfl⟩:=hb
 obtain⟨cs,t,fz,h1,_⟩:=h q hq
 exact(Array.getElem?_eq_some_iff.1 h1).1
def il (F:Nat→Prop) (w:World):Prop:=ik w∧∀b,tq b→¬F b
theorem il.mono {F F':Nat→Prop} {w:World} (h:il F w) (hF:∀b,F' b→F b):il F' w:=⟨h.1,fun b hb hx=>h.2 b hb (hF b hx)⟩
end Go.Proofs.YtoalcafkffmiiaaGreatDoor.Eng
