/- The proof, part 1 of 25. -/
import Derived.WalkKit
import Derived.Lib.ItoaNum
set_option linter.all false
namespace Go.Proofs.YtjoefngnjoofeaaGreatDoor.Eng
def isIfV:Value→Bool
 | .nilIface=>true
 | .iface _ _=>true
 | _=>false
def pH:List (Nat×(Array Value→Prop)):=
 []
 ++ [(0,fun cs=>cs=(Go.Lib.pow10Tab.map fun z=>Value.int .u64 z).toArray)]
def s8 (b:Nat):Prop:=∃q∈pH,q.1=b
def iY (w:World):Prop:=∀q∈pH,∃cs t fz,w.heap[q.1]?=some (.cells cs t fz)∧q.2 cs
theorem iY.stays {w w':World} (h:iY w) (hw:∀b cs t fz,s8 b→w.heap[b]?=some (.cells cs t fz)→w'.heap[b]?=w.heap[b]?):iY w':=by
 intro q hq
 obtain⟨cs,t,fz,h1,h2⟩:=h q hq
 exact⟨cs,t,fz,(hw _ _ _ _ ⟨q,hq,rfl⟩ h1).trans h1,h2⟩
theorem iY.lt {w:World} (h:iY w) {b:Nat} (hb:s8 b):b<w.heap.size:=by
 obtain⟨q,hq,rfl⟩:=hb
 obtain⟨cs,t,fz,h1,_⟩:=h q hq
 exact(Array.getElem?_eq_some_iff.1 h1).1
def iZ (F:Nat→Prop) (w:World):Prop:=iY w∧∀b,s8 b→¬F b
theorem iZ.mono {F F':Nat→Prop} {w:World} (h:iZ F w) (hF:∀b,F' b→F b):iZ F' w:=⟨h.1,fun b hb hx=>h.2 b hb (hF b hx)⟩
end Go.Proofs.YtjoefngnjoofeaaGreatDoor.Eng
