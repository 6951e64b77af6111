/- The proof, part 8 of 25. -/
import Derived.Test.YtjoefngnjoofeaaGreatDoorPackBuildsF
import Derived.RangeFuncSeq
import Derived.RangeFuncIn
import Derived.RangeFuncBox
set_option linter.all false
namespace Go.Proofs.YtjoefngnjoofeaaGreatDoor.Eng
open Go.RowKit
def ghost:List (Nat×AV)→List (Nat×AV)
 | []=>[]
 | (k,v)::r=>(3000000+k,v)::ghost r
section
variable {E:Env} {ρ:Loc} {st:St} {a:Act} {w:World}
end
section
variable {P:Program} {E:Env} {Q:Exit→St→Prop} {st:St}
def nS (P:Program) (E:Env) (d f:Nat) (x:AE) (c:UInt8) (bk p q0:Nat) (body:AC) (Q:Exit→St→Prop) (st:St):Prop:=
 ∀(n:Nat) (ops:Array Oper) (o:Oper) (b:Code) (a:Act) (w:World),o.dst=some d→d<E.N→o.guard=none→mo o.op=true→trOp P o=.call f [x,.c (.str [c])] →
  trCode P E.N E.B b=.block bk (.qy (.t d) [p] (.aa [⟨some q0,none,false,E.B+q0,.ah (.t p)⟩]) body)→Rel E st a w →
   wpListIn (eI E.rd) n P ops (Exit.then (b.wpIn (eI E.rd) n P (lift E Q)) (lift E Q)) [o] a w
theorem Ge {ops:List bG} {d f bk p q0:Nat} {x:AE} {c:UInt8} {body:AC} (hN:E.N≤1000000) (h:aops P ops st (nS P E d f x c bk p q0 body Q)) :
    b7 P E (.seq (.nJ (ops++[⟨some d,none,false,E.B+d,.call f [x,.c (.str [c])]⟩])) (.block bk (.qy (.t d) [p] (.aa [⟨some q0,none,false,E.B+q0,.ah (.t p)⟩]) body))) st Q:=by
 intro n code hc a w hr
 cases code<;>simp only[trCode]at hc<;>first | (cases hc;done) | (exact Bool.noConfusion (show false=true from gI hc)) | (split at hc<;>cases hc;done) | skip
 rename_i c1 c2
 injection hc with hc1 hc2
 refine wpIn_seq ?_
 cases c1<;>simp only[trCode]at hc1<;>first | (cases hc1;done) | skip
 ·rename_i id ops' draw
  obtain⟨hl,hd⟩:=azq hc1
  ··subst hd
    unfold lu at hl
    split at hl
    ·rename_i hf
     have hf':∀o∈ops'.toList,fits E.N o=true:=fun o ho=>List.all_eq_true.1 hf o ho
     simp only[Bool.false_eq_true,if_false,Option.some.injEq]at hl
     obtain⟨pre,suf,e1,e2,e3⟩:=List.map_eq_append_iff.1 hl
     obtain⟨o,suf',e4,e5,e6⟩:=List.map_eq_cons_iff.1 e3
     obtain rfl:=List.map_eq_nil_iff.1 e6
     rw[e4]at e1
     obtain⟨ρ,hρ⟩:=hr
     have hom:o∈ops'.toList:=by rw[e1];simp
     have hfo:=hf' o hom
     simp only[fb,bG.mk.injEq,true_and]at e5
     obtain⟨g1,g2,g3,g4⟩:=e5
     refine wpIn_region_list ?_
     rw[e1]
     refine kF hN ops' (K:=nS P E d f x c bk p q0 body Q) [o] (fun st' a' w' hk hr'=>?_) pre (fun o ho=>hf' o (by rw[e1];exact List.mem_append_left _ ho)) hρ (by rw[e2];exact h)
     exact hk n ops' o c2 a' w' g1 (nq hfo d g1) (by simpa using g2) (iD hfo) g4 hc2 hr'
    ·cases hl
 ·split at hc1<;>cases hc1
end
end Go.Proofs.YtjoefngnjoofeaaGreatDoor.Eng
