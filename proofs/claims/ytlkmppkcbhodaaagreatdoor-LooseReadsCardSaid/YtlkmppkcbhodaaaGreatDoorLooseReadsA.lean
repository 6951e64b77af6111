/- The proof, part 1 of 32. -/
import Derived.WalkKit
import Derived.Lib.ItoaNum
set_option linter.all false
namespace Go.Proofs.YtlkmppkcbhodaaaGreatDoor.Eng
def isIfV:Value→Bool
 | .nilIface=>true
 | .iface _ _=>true
 | _=>false
def jY:List (Nat×(Array Value→Prop)):=
 []
 ++ [(5,fun cs=>cs=(Go.Lib.pow10Tab.map fun z=>Value.int .u64 z).toArray)]
 ++ [(3,fun cs=>∃v,cs=#[v]∧isIfV v=true)]
 ++ [(4,fun cs=>∃v,cs=#[v]∧isIfV v=true)]
 ++ [(0,fun cs=>∃m:Int,cs[0]?=some (.int .i64 m))]
def rk (b:Nat):Prop:=∃q∈jY,q.1=b
def ij (w:World):Prop:=∀q∈jY,∃cs t fz,w.heap[q.1]?=some (.cells cs t fz)∧q.2 cs
theorem ij.stays {w w':World} (h:ij w) (hw:∀b cs t fz,rk b→w.heap[b]?=some (.cells cs t fz)→w'.heap[b]?=w.heap[b]?):ij w':=by
 intro q hq
 obtain⟨cs,t,fz,h1,h2⟩:=h q hq
 exact⟨cs,t,fz,(hw _ _ _ _ ⟨q,hq,rfl⟩ h1).trans h1,h2⟩
theorem ij.lt {w:World} (h:ij w) {b:Nat} (hb:rk b):b<w.heap.size:=by
 obtain⟨q,hq,rfl⟩:=hb
 obtain⟨cs,t,fz,h1,_⟩:=h q hq
 exact(Array.getElem?_eq_some_iff.1 h1).1
def jj (F:Nat→Prop) (w:World):Prop:=ij w∧∀b,rk b→¬F b
theorem jj.mono {F F':Nat→Prop} {w:World} (h:jj F w) (hF:∀b,F' b→F b):jj F' w:=⟨h.1,fun b hb hx=>h.2 b hb (hF b hx)⟩
end Go.Proofs.YtlkmppkcbhodaaaGreatDoor.Eng
