/- The proof, part 24 of 25. -/
import Derived.Test.YtjoefngnjoofeaaGreatDoorPackBuildsL
import Derived.Test.YtjoefngnjoofeaaGreatDoorPackBuildsW
import Derived.Test.YtjoefngnjoofeaaGreatDoorRows
import Derived.Stop.LaidErr
import Derived.Lay
import Derived.LaidSub
set_option linter.all false
namespace Go.Proofs.YtjoefngnjoofeaaGreatDoor
open Go.ChangeShapes Go.WideShapes Go.ChangeAt Go.RowKit Go.Lib Go.Deep
namespace Row
open Eng
set_option maxRecDepth 100000
theorem zq {P:Program} {W:World}:∀{l:List (String×DataW Unit)} {ps:List MemPlace} {q:String×DataW Unit},DataW.LaidVars P W l ps→q∈l →
    ∃g t cs fuel p,P.globalNamed q.1=some g∧(P.globals[g]?).map (·.type)=some t∧W.var? P q.1=some cs∧DataW.trod (fun _=>()) P W 0 (fun _=>true) false fuel t cs.toList=some (q.2,p)
 | [],_,_,_,h=>by cases h
 | (n,d)::r,ps,q,hv,h=>by
  obtain⟨g,t,cs,fuel,p,q',e1,e2,e3,e4,hr,_⟩:=hv
  rcases List.mem_cons.1 h with rfl | h
  ·exact⟨g,t,cs,fuel,p,e1,e2,e3,e4⟩
  ·exact zq hr h
theorem aAb {P:Program} {W:World} {n:String} {g:Nat} {cs:Array Value} (hv:W.var? P n=some cs) (hg:P.globalNamed n=some g):∃t fz,W.heap[g]?=some (.cells cs t fz):=by
 unfold World.var? at hv
 rw[hg]at hv
 simp only[Option.bind_some]at hv
 split at hv
 ·rename_i c t fz e
  obtain rfl:=Option.some.inj hv
  exact⟨t,fz,e⟩
 ·cases hv
theorem EY {W:World} (h:laidMetH Tryz.prog Rows.packBuildsRow.laid W):iY W:=by
 rw[MakeChecks.laidMetH_plain _ _ _ (by kernel_rfl)]at h
 obtain⟨ps,hl,_⟩:=h
 intro q hq
 unfold pH at hq
 simp only[List.nil_append,List.cons_append,List.mem_cons,List.not_mem_nil,or_false]at hq
 obtain rfl:=hq
 obtain⟨g,t,cs,fuel,p,h1,h2,h3,h4⟩:=zq (q:=(_,Rows.laid_internal_strconv_uint64pow10)) hl (.tail _ (.tail _ (.head _)))
 obtain rfl:=Option.some.inj ((show _=some 0 by kernel_rfl).symm.trans h1)
 obtain rfl:=Option.some.inj ((show _=some 186 by kernel_rfl).symm.trans h2)
 have e:(Rows.laid_internal_strconv_uint64pow10:DataW Unit)=Lib.tabData .u64 Lib.pow10Tab:=by kernel_rfl
 have h4:DataW.trod (fun _=>()) Tryz.prog W 0 (fun _=>true) false fuel 186 cs.toList=some (Rows.laid_internal_strconv_uint64pow10,p):=h4
 rw[e]at h4
 have hc:=Lib.cells_of_tab Tryz.underlying186 Tryz.underlying58 (by kernel_rfl) (by kernel_rfl) h4
 obtain⟨t',fz,hh⟩:=aAb h3 h1
 exact⟨cs,t',fz,hh,by simp only;rw[←hc]⟩
theorem Aj {t:TypeId} (ht:Tryz.prog.underlying t=some .bool):fZ t Bool (fun n=>[.bool n]) (fun _=>True) (fun _=>0):=by
 constructor
 intro H enc W fuel cs d p h _
 obtain⟨b,e1,e2⟩:=DataW.trod_bool ht h
 simp only[Prod.mk.injEq]at e2
 obtain⟨rfl,rfl⟩:=e2
 subst e1
 exact⟨b,trivial,Nat.le_refl _,.cons (.bool _ _) .nil⟩
theorem acs:fZ 51 (Int×List UInt8) (fun s=>[.int .i64 s.1,.str s.2]) (fun s=>(-9223372036854775808≤s.1∧s.1≤9223372036854775807)∧s.2.length≤140737488351232) (fun _=>0):=
 (Al Tryz.underlying51 rfl (e:=2) (by kernel_rfl) (ma (k:=1) (Ak Tryz.underlying3) rfl (by kernel_rfl) (ma (k:=1) (acv Tryz.underlying9) rfl (by kernel_rfl) xU))).map
  (fun a=>(⟨a.1,a.2.1⟩:Int×List UInt8)) (fun a=>rfl) (fun a h=>⟨h.1,h.2.1⟩) (fun a=>Nat.zero_le _)
theorem acq:fZ 53 Pk.It (fun x=>[.int .i64 x.k,.str x.d,.bool x.dl,.int .i64 x.bs,.bool x.bn]) (fun x=>Pk.mN x∧(-9223372036854775808≤x.k∧x.k≤9223372036854775807)∧(-9223372036854775808≤x.bs∧x.bs≤9223372036854775807)) (fun _=>0):=
 (Al Tryz.underlying53 rfl (e:=5) (by kernel_rfl) (ma (k:=2) acs rfl (by kernel_rfl) (ma (k:=1) (Aj Tryz.underlying4) rfl (by kernel_rfl) (ma (k:=1) (Ak Tryz.underlying3) rfl (by kernel_rfl) (ma (k:=1) (Aj Tryz.underlying4) rfl (by kernel_rfl) xU))))).map
  (fun a=>(⟨a.1.1,a.1.2,a.2.1,a.2.2.1,a.2.2.2.1⟩:Pk.It)) (fun a=>rfl) (fun a h=>⟨h.1.2,h.1.1,h.2.2.1⟩) (fun a=>Nat.zero_le _)
theorem acr:fZ 45 (List Pk.It) (fun l=>[.ro 5 (l.map Pk.bC)]) (fun l=>l.length*48≤140737488351232∧l.length≤9223372036854775807∧∀a∈l,Pk.mN a∧(-9223372036854775808≤a.k∧a.k≤9223372036854775807)∧(-9223372036854775808≤a.bs∧a.bs≤9223372036854775807)) (fun l=>(l.map (fun _=>0+1)).sum):=
 acu Tryz.underlying45 (by kernel_rfl) (by decide) (by kernel_rfl) acq Pk.bC (fun _=>rfl) (fun _=>rfl)
end Row
namespace Pk
noncomputable def pX (os:Os):World:=World.laidAll Tryz.prog os Rows.packBuildsRow.laid
theorem ZJ (os:Os) (args:Array Value):laidMetH Tryz.prog Rows.packBuildsRow.laid ((pX os).forCall (fun _ _=>0) ⟨#[],args,[]⟩).memory:=by
 rw[MakeChecks.laidMetH_plain _ _ _ (by kernel_rfl)]
 exact laidMet_laidAll _ (by kernel_rfl) (by kernel_rfl)
end Pk
end Go.Proofs.YtjoefngnjoofeaaGreatDoor
