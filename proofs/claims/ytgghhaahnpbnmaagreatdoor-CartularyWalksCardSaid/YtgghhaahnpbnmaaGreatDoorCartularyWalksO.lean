/- The proof, part 15 of 51. -/
import Derived.Test.YtgghhaahnpbnmaaGreatDoorCartularyWalksM
import Derived.Test.YtgghhaahnpbnmaaGreatDoorCartularyWalksN
import Derived.Test.YtgghhaahnpbnmaaGreatDoorRows
import Derived.Stop.LaidErr
import Derived.Lay
import Derived.LaidSub
import Derived.Shelf.Vars
set_option linter.all false
namespace Go.Proofs.YtgghhaahnpbnmaaGreatDoor
open Go.ChangeShapes Go.WideShapes Go.ChangeAt Go.RowKit Go.Lib Go.Deep
namespace Row
open Eng
set_option maxRecDepth 100000
theorem uc {P:Program} {W:World}:∀{l:List (String×DataW Unit)} {ps:List MemPlace} {q:String×DataW Unit},DataW.LaidVars P W l ps->q∈l ->
    ∃g t cs fuel p,P.globalNamed q.1=some g/\(P.globals[g]?).map (·.type)=some t/\W.var? P q.1=some cs/\DataW.trod (λ_=>()) P W 0 (λ_=>true) false fuel t cs.toList=some (q.2,p)
 | [],_,_,_,h=>by cases h
 | (n,d)::r,ps,q,hv,h=>by
  obtain⟨g,t,cs,fuel,p,q',e1,e2,e3,e4,hr,_⟩:=hv;rcases acW.1 h with rfl | h;exact⟨g,t,cs,fuel,p,e1,e2,e3,e4⟩;exact uc hr h
theorem zx {P:Program} {W:World} {n:String} {g:Nat} {cs:Array Value} (hv:W.var? P n=some cs) (hg:P.globalNamed n=some g):∃t fz,W.heap[g]?=some (.cells cs t fz):=by
 unfold World.var? at hv;rw[hg]at hv;simp only[aeQ]at hv;split at hv
 ·rename_i c t fz e;obtain rfl:=Option.some.inj hv;exact⟨t,fz,e⟩
 ·cases hv
theorem iface_of_trod {H:Type} {enc:TypeId×Value->H} {P:Program} {W:World} {base fuel:Nat} {sp:Nat->Bool} {held:Bool} {t:TypeId} {cs:List Value} {nm:String} {d:DataW H} {p:List MemPlace} {ms:Array (String×TypeId)}
    (hi:P.underlying t=some (.interface ms)) (h:DataW.trod enc P W base sp held fuel t cs=some (.iface nm d,p)):∃u v,cs=[.iface u v]:=by
 cases fuel with
 | zero=>simp[DataW.trod]at h
 | succ fuel=>
  simp only[DataW.trod,hi]at h;split at h<;>first | (rename_i e _;cases e;done) | skip
  all_goals first | exact⟨_,_,rfl⟩ | simp_all
theorem Ie {W:World} (h:laidMetH Tryz.prog Rows.cartularyWalksRow.laid W) (hS:W.ShapedOpen Tryz.prog):iH W:=by
 rw[MakeChecks.laidMetH_plain _ _ _ (by kernel_rfl)]at h;obtain⟨ps,hl,_⟩:=h;intro q hq;unfold oC at hq;simp only[adf,acZ,acW,aeR,or_false]at hq;rcases hq with rfl | rfl | rfl
 ·obtain⟨g,t,cs,fuel,p,h1,h2,h3,h4⟩:=uc (q:=(_,Rows.laid_internal_strconv_uint64pow10)) hl (.tail _ (.tail _ (.head _)));obtain rfl:=Option.some.inj ((show _=some 3 by kernel_rfl).symm.trans h1);obtain rfl:=Option.some.inj ((show _=some 254 by kernel_rfl).symm.trans h2);have e:(Rows.laid_internal_strconv_uint64pow10:DataW Unit)=Lib.tabData .u64 Lib.pow10Tab:=by kernel_rfl
  have h4:DataW.trod (λ_=>()) Tryz.prog W 0 (λ_=>true) false fuel 254 cs.toList=some (Rows.laid_internal_strconv_uint64pow10,p):=h4;rw[e]at h4;have hc:=Lib.cells_of_tab Tryz.underlying254 Tryz.underlying120 (by kernel_rfl) (by kernel_rfl) h4;obtain⟨t',fz,hh⟩:=zx h3 h1;exact⟨cs,t',fz,hh,by simp only;rw[<-hc]⟩
 ·obtain⟨g,t,cs,fuel,p,h1,h2,h3,h4⟩:=uc (q:=(_,Rows.laid_strconv_ErrSyntax)) hl (.tail _ (.tail _ (.tail _ (.tail _ (.tail _ (.head _))))));obtain rfl:=Option.some.inj ((show _=some 6 by kernel_rfl).symm.trans h1);obtain rfl:=Option.some.inj ((show _=some 105 by kernel_rfl).symm.trans h2);obtain⟨u,v,hc⟩:=iface_of_trod Tryz.underlying105 (show DataW.trod (λ_=>()) Tryz.prog W 0 (λ_=>true) false fuel 105 cs.toList=some (.iface _ _,p)from h4);obtain⟨t',fz,hh⟩:=zx h3 h1;exact⟨cs,t',fz,hh,.iface u v,by apply Array.ext';simpa using hc,rfl⟩
 ·obtain⟨g,t,cs,fuel,p,h1,h2,h3,h4⟩:=uc (q:=(_,Rows.laid_strconv_ErrRange)) hl (.tail _ (.tail _ (.tail _ (.tail _ (.head _)))));obtain rfl:=Option.some.inj ((show _=some 7 by kernel_rfl).symm.trans h1);obtain rfl:=Option.some.inj ((show _=some 105 by kernel_rfl).symm.trans h2);obtain⟨u,v,hc⟩:=iface_of_trod Tryz.underlying105 (show DataW.trod (λ_=>()) Tryz.prog W 0 (λ_=>true) false fuel 105 cs.toList=some (.iface _ _,p)from h4);obtain⟨t',fz,hh⟩:=zx h3 h1;exact⟨cs,t',fz,hh,.iface u v,by apply Array.ext';simpa using hc,rfl⟩
theorem VP:jP 27 (List Int) (λl=>[.ro 1 (l.map (AV.int .i64))]) (λl=>l.length*8<=140737488351232/\l.length<=9223372036854775807/\∀a∈l,-9223372036854775808<=a/\a<=9223372036854775807) (λl=>(l.map (λa=>0+1)).sum):=
 Ey Tryz.underlying27 (by kernel_rfl) (by decide) (by kernel_rfl) (VO Tryz.underlying3) (AV.int .i64) (λ_=>rfl) (λ_=>rfl)
theorem VQ:jP 22 (List (List Int)) (λl=>[.ro 1 (l.map λr=>AV.ro 1 (r.map (AV.int .i64)))]) (λl=>l.length*24<=140737488351232/\l.length<=9223372036854775807/\∀a∈l,a.length*8<=140737488351232/\a.length<=9223372036854775807/\∀x∈a,-9223372036854775808<=x/\x<=9223372036854775807) (λl=>(l.map (λa=>(a.map (λ_=>0+1)).sum+1)).sum):=
 Ey Tryz.underlying22 (by kernel_rfl) (by decide) (by kernel_rfl) VP (λr=>AV.ro 1 (r.map (AV.int .i64))) (λ_=>rfl) (λ_=>rfl)
end Row
namespace Ls
noncomputable def ua (os:Os):World:=World.laidAll Tryz.prog os Rows.cartularyWalksRow.laid
theorem Tw (os:Os) (args:Array Value):laidMetH Tryz.prog Rows.cartularyWalksRow.laid ((ua os).forCall (λ_ _=>0) ⟨#[],args,[]⟩).memory:=by
 rw[MakeChecks.laidMetH_plain _ _ _ (by kernel_rfl)];exact laidMet_laidAll _ (by kernel_rfl) (by kernel_rfl)
end Ls
end Go.Proofs.YtgghhaahnpbnmaaGreatDoor
