/- The proof, part 1 of 34. -/
import Derived.WalkKit
import Derived.Lib.ItoaNum
set_option linter.all false
namespace Go.Proofs.YtlkmppkcbhodaaaGreatDoor.Eng
def isIfV:Value→Bool
 | .nilIface=>true
 | .iface _ _=>true
 | _=>false
def ly:List (Nat×(Array Value→Prop)):=
 []
 ++ [(5,fun cs=>cs=(Go.Lib.pow10Tab.map fun z=>Value.int .u64 z).toArray)]
 ++ [(3,fun cs=>∃v,cs=#[v]∧isIfV v=true)]
 ++ [(4,fun cs=>∃v,cs=#[v]∧isIfV v=true)]
 ++ [(0,fun cs=>∃m:Int,cs[0]?=some (.int .i64 m))]
def r9 (b:Nat):Prop:=∃q∈ly,q.1=b
def ir (w:World):Prop:=∀q∈ly,∃cs t fz,w.heap[q.1]?=some (.cells cs t fz)∧q.2 cs
theorem ir.stays {w w':World} (h:ir w) (hw:∀b cs t fz,r9 b→w.heap[b]?=some (.cells cs t fz)→w'.heap[b]?=w.heap[b]?):ir w':=by
 intro q hq
 obtain⟨cs,t,fz,h1,h2⟩:=h q hq
 exact⟨cs,t,fz,(hw _ _ _ _ ⟨q,hq,rfl⟩ h1).trans h1,h2⟩
theorem ir.lt {w:World} (h:ir w) {b:Nat} (hb:r9 b):b<w.heap.size:=by
 obtain⟨q,hq,rfl⟩:=hb
 obtain⟨cs,t,fz,h1,_⟩:=h q hq
 exact(Array.getElem?_eq_some_iff.1 h1).1
def jv (F:Nat→Prop) (w:World):Prop:=ir w∧∀b,r9 b→¬F b
theorem jv.mono {F F':Nat→Prop} {w:World} (h:jv F w) (hF:∀b,F' b→F b):jv F' w:=⟨h.1,fun b hb hx=>h.2 b hb (hF b hx)⟩
end Go.Proofs.YtlkmppkcbhodaaaGreatDoor.Eng
