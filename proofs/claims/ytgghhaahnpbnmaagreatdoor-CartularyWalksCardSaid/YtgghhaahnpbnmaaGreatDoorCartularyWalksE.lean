/- The proof, part 5 of 51. -/
import Derived.Test.YtgghhaahnpbnmaaGreatDoorCartularyWalksD
import Derived.OrdersHeld
set_option linter.all false
namespace Go.Proofs.YtgghhaahnpbnmaaGreatDoor.Eng
section
variable {P:Program} {ops:Array Oper} {Q:Exit->Act->World->Prop} {md:Region.Mode} {quiet:Nat->Bool}
def ml (P:Program) (md:Region.Mode) (ops:Array Oper) (Q:Exit->Act->World->Prop) (quiet:Nat->Bool):Nat->Array Bool->Act->World->Prop
 | 0,listed,a,w=>Region.ready md ops listed=[]/\Q .normal a w
 | fuel+1,listed,a,w=>
  (Region.ready md ops listed=[]->Q .normal a w) /\
  ∀i∈Region.ready md ops listed,wpOp P ops Q i (λa' w'=>(quiet i=true->az w w')/\ml P md ops Q quiet fuel (listed.setIfInBounds i true) a' w') a w
theorem Hc {i:Nat} {oi:Oper} {v:Value} {S:World->Prop} {late:Nat->Prop} (hlate:∀j oj,ops[j]?=some oj->late j->∃e∈oj.after,Region.binds md e=true/\(e.on=i\/late e.on)) (hS0:∀w w',S w->az w w'->S w') (hi:ops[i]?=some oi) (hsel:∀(j:Nat) (o:Oper) cs b,ops[j]?=some o->o.op≠.select cs b)
    (hQ:∀c a w,Q (.panic c) (a.put oi.dst v) w->Q (.panic c) a w) :
    ∀(fuel:Nat) (listed:Array Bool) (a:Act) (w:World),
     (∀j,late j->listed.getD j false=false) ->
     (∀j oj,ops[j]?=some oj->j≠i->listed.getD j true=false->¬late j->(∀e∈oj.after,Region.binds md e=true->e.on≠i)->oi.apart ops oj=true/\((∀w,S w)\/quiet j=true)) ->
     i∈Region.ready md ops listed->YieldsIf P ops S oi v a->S w ->
     ml P md ops Q quiet fuel (listed.setIfInBounds i true) (a.put oi.dst v) w->ml P md ops Q quiet (fuel+1) listed a w:=by
 intro fuel
 induction fuel with
 | zero=>
  intro listed a w _ _ hr hy hS H;refine⟨λh=>(by rw[h]at hr;cases hr),λj hj=>?_⟩;by_cases hji:j=i
  ·subst hji;exact hy.wpOp hi hS ⟨λ_=>az.refl w,H⟩
  ·have:=ready_mono hj hji;rw[H.1]at this
   cases this
 | succ fuel ih=>
  intro listed a w hll hfree hr hy hS H;refine⟨λh=>(by rw[h]at hr;cases hr),λj hj=>?_⟩;by_cases hji:j=i
  ·subst hji;exact hy.wpOp hi hS ⟨λ_=>az.refl w,H⟩
  ·have h1:=H.2 j (ready_mono hj hji);obtain⟨hjun,oj,hoj,hall⟩:=mem_ready.1 hj
   have hnot:∀e∈oj.after,Region.binds md e=true->e.on≠i:=λe he hb heq=>by
    have h1:=hall e he hb;have h0:=(mem_ready.1 hr).1;rw[heq]at h1;rcases afp i listed.size with h' | h'
    ·simp[h']at h0 h1;rw[h0]at h1;cases h1
    ·simp[Array.getElem?_eq_none h']at h1
   have hnl:¬late j:=by
    intro hl;obtain⟨e,he,hb,h'⟩:=hlate j oj hoj hl;rcases h' with h' | h';exact hnot e he hb h'
    ·have:=hall e he hb;rw[hll _ h']at this;cases this
   obtain⟨hap,hqu⟩:=hfree j oj hoj hji hjun hnl hnot;have h2:=wpOp_putIf hoj hap (λcs b=>hsel i oi cs b hi) (λcs b=>hsel j oj cs b hoj) hQ hy h1
   have hfree':∀k ok,ops[k]?=some ok->k≠i->(listed.setIfInBounds j true).getD k true=false ->
       ¬late k->(∀e∈ok.after,Region.binds md e=true->e.on≠i)->oi.apart ops ok=true/\((∀w,S w)\/quiet k=true):=λk ok hk hki hun hnl hno=>by
    refine hfree k ok hk hki ?_ hnl hno;by_cases hjk:j=k
    ·subst hjk;exact hjun
    ·rw[getD_set_ne true hjk]at hun;exact hun
   have hll':∀k,late k->(listed.setIfInBounds j true).getD k false=false:=λk hk=>by
    have hjk:j≠k:=λe=>hnl (e▸hk);have:=hll k hk;rw[getD_set_ne false hjk];exact this
   refine wpOp_mono (λa' w' h3=>⟨h3.2.1,ih (listed.setIfInBounds j true) a' w' hll' hfree' (ready_mono hr (Ne.symm hji)) h3.1 (hqu.elim (λh=>h w') (λh=>hS0 _ _ hS (h3.2.1 h))) ?_⟩) h2;rw[Array.setIfInBounds_comm _ _ hji];exact h3.2.2
end
end Go.Proofs.YtgghhaahnpbnmaaGreatDoor.Eng
