/- The proof, part 1 of 32. -/
import Derived.WalkKit
import Derived.Lib.ItoaNum
set_option linter.all false
namespace Go.Proofs.YthmkimlfnkghmaaGreatDoor.Eng
def isIfV:Value→Bool
 | .nilIface=>true
 | .iface _ _=>true
 | _=>false
def glist:List (Nat×(Array Value→Prop)):=
 []
 ++ [(5,fun cs=>cs=(Go.Lib.pow10Tab.map fun z=>Value.int .u64 z).toArray)]
 ++ [(3,fun cs=>∃v,cs=#[v]∧isIfV v=true)]
 ++ [(4,fun cs=>∃v,cs=#[v]∧isIfV v=true)]
 ++ [(0,fun cs=>∃m:Int,cs[0]?=some (.int .i64 m))]
def isG (b:Nat):Prop:=∃q∈glist,q.1=b
def Amb (w:World):Prop:=∀q∈glist,∃cs t fz,w.heap[q.1]?=some (.cells cs t fz)∧q.2 cs
theorem Amb.stays {w w':World} (h:Amb w) (hw:∀b cs t fz,isG b→w.heap[b]?=some (.cells cs t fz)→w'.heap[b]?=w.heap[b]?):Amb w':=by
 intro q hq
 obtain⟨cs,t,fz,h1,h2⟩:=h q hq
 exact⟨cs,t,fz,(hw _ _ _ _ ⟨q,hq,rfl⟩ h1).trans h1,h2⟩
theorem Amb.lt {w:World} (h:Amb w) {b:Nat} (hb:isG b):b<w.heap.size:=by
 obtain⟨q,hq,rfl⟩:=hb
 obtain⟨cs,t,fz,h1,_⟩:=h q hq
 exact(Array.getElem?_eq_some_iff.1 h1).1
def AmbO (F:Nat→Prop) (w:World):Prop:=Amb w∧∀b,isG b→¬F b
theorem AmbO.mono {F F':Nat→Prop} {w:World} (h:AmbO F w) (hF:∀b,F' b→F b):AmbO F' w:=⟨h.1,fun b hb hx=>h.2 b hb (hF b hx)⟩
end Go.Proofs.YthmkimlfnkghmaaGreatDoor.Eng
