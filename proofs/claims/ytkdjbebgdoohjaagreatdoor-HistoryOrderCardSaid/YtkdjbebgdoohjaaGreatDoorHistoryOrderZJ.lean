/- The proof, part 36 of 50. -/
import Derived.Test.YtkdjbebgdoohjaaGreatDoorHistoryOrderZI
import Derived.Lib.SplitLaws
set_option linter.all false
namespace Go.Proofs.YtkdjbebgdoohjaaGreatDoor.Ls
open Eng
set_option maxRecDepth 10000
theorem ma:∀a b:Bs,Op.bytesLess a b=decide (Lib.compareBytes a b = -1)
 | [],[]=>rfl
 | [],_::_=>rfl
 | _::_,[]=>rfl
 | x::r,y::t=>by
  have ih:=ma r t;rw[Op.bytesLess,Lib.compareBytes,ih];by_cases h1:x<y
  ·simp[h1]
  ·by_cases h2:y<x
   ·have:¬x=y:=λe=>by subst e;exact h1 h2
    simp[h1,h2,this]
   ·have:x=y:=by
     simp only[aat]at h1 h2;exact UInt8.toNat.inj ZG
    simp[this]
def putP (s:Bs):List Bs->List Bs
 | []=>[s]
 | x::r=>if x=s then x::r else if Op.bytesLess s x=true then s::x::r else x::putP s r
def ia (l:List Bs):Prop:=l.Pairwise (λa b=>Lib.compareBytes a b<0)
theorem xp (s y:Bs):∀l:List Bs,y∈putP s l↔y=s\/y∈l
 | []=>by simp[putP]
 | x::r=>by
  have ih:=xp s y r;unfold putP;split
  ·rename_i h;subst h;simp
  ·split
   ·simp
   ·rw[ZW,ih,ZW];constructor
    ·rintro(h | h | h)<;>simp[h]
    ·rintro(h | h | h)<;>simp[h]
theorem Di (s:Bs):∀{l:List Bs},ia l->ia (putP s l)
 | [],_=>abE _ _
 | x::r,h=>by
  have h':=Z2.1 h;unfold putP;split;exact h
  ·rename_i hne;split
   ·rename_i hl;rw[ma,decide_eq_true_eq]at hl;refine Z2.2 ⟨λy hy=>?_,h⟩;rcases ZW.1 hy with rfl | hy;omega
    ·have:=h'.1 y hy;exact qU ZG this
   ·rename_i hl;rw[ma,decide_eq_true_eq]at hl;refine Z2.2 ⟨λy hy=>?_,Di s h'.2⟩;rcases(xp s y r).1 hy with rfl | hy
    ·have h1:=uP y x;have h2:=fi y x;have h3:Lib.compareBytes y x≠0:=λh=>hne (jA h).symm;omega
    exact h'.1 y hy
def eB (t:Bs) (fs:List Fi):List Bs:=((fs.filter (λf=>bu t f.1)).map (·.1)).foldl (λo p=>putP p o) []
theorem vC (y:Bs):∀(l acc:List Bs),y∈l.foldl (λo p=>putP p o) acc↔y∈acc\/y∈l
 | [],acc=>by simp
 | p::r,acc=>by
  rw[abg,vC y r,xp,ZW];constructor
  ·rintro((h | h) | h)<;>simp[h]
  ·rintro(h | h | h)<;>simp[h]
theorem vD:∀(l:List Bs) {acc:List Bs},ia acc->ia (l.foldl (λo p=>putP p o) acc)
 | [],_,h=>h
 | p::r,_,h=>vD r (Di p h)
theorem xW:∀{a b:List Bs},ia a->ia b->(∀x,x∈a↔x∈b)->a=b
 | [],[],_,_,_=>rfl
 | [],y::b,_,_,h=>by have:=(h y).2 (Z1 ..);simp at this
 | x::a,[],_,_,h=>by have:=(h x).1 (Z1 ..);simp at this
 | x::a,y::b,ha,hb,h=>by
  have ha':=Z2.1 ha;have hb':=Z2.1 hb
  have hxy:x=y:=by
   rcases ZW.1 ((h x).1 (Z1 ..))with e | h1;exact e
   ·rcases ZW.1 ((h y).2 (Z1 ..))with e | h2;exact e.symm
    ·have e1:=hb'.1 x h1;have e2:=ha'.1 y h2;have:=fi x y;omega
  subst hxy
  have hno:∀{l:List Bs},(∀z∈l,Lib.compareBytes x z<0)->x∉l:=λh1 h2=>by
   have:=h1 x h2;rw[j9]at this;omega
  rw[xW ha'.2 hb'.2 (λz=>by
   have hz:=h z;rw[ZW,ZW]at hz;constructor
   ·intro hm;rcases hz.1 (.inr hm)with e | h1;exact absurd (e▸hm) (hno ha'.1);exact h1
   ·intro hm;rcases hz.2 (.inr hm)with e | h1;exact absurd (e▸hm) (hno hb'.1)
    ·exact h1)]
theorem uD (a b:UInt8) (t s:Bs):bu (a::t) (b::s)=(decide (a=b)&&bu t s):=by
 unfold bu;by_cases h:a=b
 ·subst h;simp
 ·have h':¬b=a:=λe=>h e.symm;simp[h,h']
theorem Ho (s:Bs):bu [] s=true:=by simp[bu]
theorem y7 (a:UInt8) (t:Bs):bu (a::t) []=false:=by simp[bu]
theorem y5:∀{t s:Bs},bu t s=true->Lib.compareBytes t s<=0
 | [],[],_=>by simp[Lib.compareBytes]
 | [],_::_,_=>by simp[Lib.compareBytes]
 | a::t,[],h=>by rw[y7]at h;cases h
 | a::t,b::s,h=>by
  rw[uD,ZS,decide_eq_true_eq]at h;obtain⟨rfl,h⟩:=h;have:=y5 h;simpa[Lib.compareBytes,aat]using this
theorem y0:∀{t y z:Bs},Lib.compareBytes t y<=0->Lib.compareBytes y z<=0->bu t z=true->bu t y=true
 | [],y,_,_,_,_=>Ho y
 | a::t,y,[],_,_,h=>by rw[y7]at h;cases h
 | a::t,[],z::zs,h,_,_=>by simp[Lib.compareBytes]at h
 | a::t,c::y,b::z,h1,h2,h3=>by
  rw[uD,ZS,decide_eq_true_eq]at h3;obtain⟨rfl,h3⟩:=h3;simp only[Lib.compareBytes,aat]at h1 h2;by_cases hc:a.toNat=c.toNat
  ·have hc:=UInt8.toNat.inj hc;subst hc;simp only[abp,if_false]at h1 h2;rw[uD,decide_eq_true rfl,ab0];exact y0 h1 h2 h3
  ·exfalso
   split at h1
   ·rename_i h;rw[if_neg ZG,if_pos h]at h2;omega
   ·rw[if_pos ZG]at h1;omega
theorem EC (t:Bs):∀{L:List Fi},dX L->(∀f∈L,Lib.compareBytes t f.1<=0)->L.takeWhile (λf=>bu t f.1)=L.filter (λf=>bu t f.1)
 | [],_,_=>rfl
 | x::r,hs,hg=>by
  have hs':=Z2.1 hs;rw[abz];by_cases h:bu t x.1=true
  ·rw[if_pos h,aaS (p:=λf:Fi=>bu t f.1) h,EC t hs'.2 (λf hf=>hg f (Z4 _ hf))]
  ·rw[if_neg h,aaB (p:=λf:Fi=>bu t f.1) h,eq_comm,acd];intro y hy hb;have h1:=hs'.1 y hy;exact h (y0 (hg x (Z1 ..)) (by unfold bM at h1;omega) hb)
theorem x7 (t:Bs):∀{L:List Fi},dX L->cY t L=(L.filter (λf=>bu t f.1)).map (·.1)
 | [],_=>rfl
 | x::r,hs=>by
  have hs':=Z2.1 hs;by_cases h:Lib.compareBytes x.1 t<0
  ·have ih:=x7 t hs'.2
   have hno:¬bu t x.1=true:=λhb=>by
    have h1:=y5 hb;have:=fi x.1 t;omega
   rw[aaB (p:=λf:Fi=>bu t f.1) hno,<-ih];unfold cY;rw[show posF t (x::r)=posF t r+1 by simp only[posF];rw[if_pos h],aav]
  ·have hge:∀f∈x::r,Lib.compareBytes t f.1<=0:=λf hf=>by
    have h0:Lib.compareBytes t x.1<=0:=by have:=fi x.1 t;omega
    rcases ZW.1 hf with rfl | hf;exact h0
    ·have h1:=hs'.1 f hf;exact oK _ _ _ h0 (by unfold bM at h1;omega)
   unfold cY;rw[show posF t (x::r)=0 by simp only[posF];rw[if_neg h],aae,EC t hs hge]
theorem Yg {L fs:List Fi} (hs:dX L) (hp:L.Perm fs) (t:Bs):eB t fs=cY t L:=by
 rw[x7 t hs];refine xW (vD _ .nil) ?_ (λx=>?_);exact abZ.2 ((List.Pairwise.filter _ hs).imp (λh=>h))
 ·unfold eB;rw[vC];simp only[abv,false_or,aaL,List.mem_filter];constructor
  ·rintro⟨f,⟨h1,h2⟩,rfl⟩;exact⟨f,⟨hp.mem_iff.2 h1,h2⟩,rfl⟩
  ·rintro⟨f,⟨h1,h2⟩,rfl⟩;exact⟨f,⟨hp.mem_iff.1 h1,h2⟩,rfl⟩
def fY (p:Bs) (fs:List Fi):Option Bs:=((fs.filter (λf=>decide (f.1=p))).map (·.2)).head?
theorem Lo {L fs:List Fi} (hs:dX L) (hp:L.Perm fs) (p:Bs):fY p fs=getF p L:=by
 unfold fY;rw[SP hp hs p];cases getF p L<;>rfl
open Eng Ob Pk
set_option maxRecDepth 10000
theorem Ug (s t:Bs) (hs:s.length<=9223372036854775807) (ht:t.length<=9223372036854775807):aw Tryz.prog 53 [.str s,.str t] (.bool (bu t s)):=by
 refine Cod.Uh (λE R hN hR=>?_);by_cases h:t.length<=s.length
 ·have hi:(t.length:Int)<=(s.length:Int):=ZG;refine ah hi ?_;refine bI hi ?_;refine hR.ro ⟨rfl,?_⟩;simp[bu,h]
 ·have hi:¬(t.length:Int)<=(s.length:Int):=ZG;refine ah hi ?_;refine bI hi ?_;exact hR.ro ⟨rfl,by simp[bu,h]⟩
abbrev sE (o:Option Bs):AV:=.ab [.str (o.getD []),.bool o.isSome]
theorem Dk (fs:List Fi) (p:Bs) (hl:fs.length<=100000):aw Tryz.prog 27 [.ro 2 (aQ fs),.str p] (sE (fY p fs)):=by
 refine Cod.Ui (λE R hN hR=>?_);refine ah @bD ?_;refine aP hN (λk:Nat=>⟨[(1,.str p),(8,.ro 2 (aQ fs)),(9,.int .i64 fs.length),(10,.int .i64 k)],[]⟩) (λk=>k<=fs.length/\(fs.take k).filter (λf=>decide (f.1=p))=[]) (λk=>fs.length-k) 0 (.le vV) ⟨Z7 _,rfl⟩ ?_;rintro k R1 ⟨hk,hno⟩ hR1;by_cases hlt:k<fs.length
 ·have hsn:=fb aJ fs hlt
  have hsp:fs=fs.take k++fs.getD k aJ::fs.drop (k+1):=by
   have hdr:fs.drop k=fs.getD k aJ::fs.drop (k+1):=by
    rw[ZH,List.getElem?_eq_getElem hlt];exact aak hlt
   rw[<-hdr,abi]
  have yes:(fs.getD k aJ).1=p->fY p fs=some (fs.getD k aJ).2:=λh=>by
   unfold fY;rw[hsp,abf,hno,aac,<-hsp,aaS (by simpa using h)];rfl
  refine aE @bD @fN ?_;refine rU (λhe=>?_) (λhe=>?_)
  ·rw[yes he]at hR;refine wW ?_;exact hR.ro ⟨rfl,rfl⟩
  ·refine wW ?_;exact hR1 (k+1) _ ZG ⟨ZG,by rw[hsn,abf,hno,aaB (by simpa using he)];rfl⟩ (.le vV)
 ·obtain rfl:k=fs.length:=ZG;rw[ZK (ZM _)]at hno;have:fY p fs=none:=by unfold fY;rw[hno];rfl
  rw[this]at hR;refine wW ?_;exact hR.ro ⟨rfl,rfl⟩
theorem Cc {x s:Bs} (h:¬x=s) (hl:Op.bytesLess s x=true):Op.bytesLess x s=false:=by
 rw[ma,decide_eq_true_eq]at hl;rw[ma,decide_eq_false_iff_not];have:=fi s x;omega
theorem Cd {x s:Bs} (h:¬x=s) (hl:Op.bytesLess s x=false):Op.bytesLess x s=true:=by
 rw[ma,decide_eq_false_iff_not]at hl;rw[ma,decide_eq_true_eq];have h1:=fi s x;have h2:=uP x s;have h3:Lib.compareBytes x s≠0:=λe=>h (jA e);omega
theorem Dg (s:Bs):∀l:List Bs,(putP s l).length<=l.length+1
 | []=>by simp[putP]
 | x::r=>by
  have:=Dg s r;unfold putP;split
  ·simp
  ·split
   ·simp
   ·simp only[Z0];omega
set_option maxHeartbeats 1000000 in
theorem Uj (l:List Bs) (s:Bs) (hl:l.length<=100000):Eng.Spec Tryz.prog 54 [] [.ro 1 (aL l),.str s] (λh r ar=>h=[(228009,.arr 1 (aL (putP s l)))]/\r=.sl 228009 0 (putP s l).length/\ar=[.undef,.undef]):=by
 refine Cod.Ul (λE R hN hR=>?_);refine ah @bz ?_
 refine aP hN (λq:Nat×List Bs×Bool=>⟨[(1,.str s),(5,.sl 228009 0 q.2.1.length),(6,.bool q.2.2),(10,.ro 1 (aL l)),(11,.int .i64 l.length),(12,.int .i64 q.1)],[(228009,.arr 1 (aL q.2.1))]⟩)
  (λq=>q.1<=l.length/\q.2.1.length<=q.1+1/\(q.2.2=true->q.2.1++l.drop q.1=putP s l)/\(q.2.2=false->q.2.1=l.take q.1/\putP s l=l.take q.1++putP s (l.drop q.1))) (λq=>l.length-q.1) (0,[],false) (.le ?_) ⟨Z7 _,by simp,by simp,by simp⟩ ?_
 ·simp(disch:=omega)only[go_sem,simprocAttr,aai,tC]
 rintro⟨k,o,d⟩ R1 ⟨hk,hol,hd1,hd0⟩ hR1;simp only at hk hol hd1 hd0;by_cases hlt:k<l.length
 ·have hdr:l.drop k=l.getD k []::l.drop (k+1):=by
   rw[ZH,List.getElem?_eq_getElem hlt];exact aak hlt
  have hsn:=fb [] l hlt
  have next:∀(o':List Bs) (d':Bool),o'.length<=k+2->(d'=true->o'++l.drop (k+1)=putP s l)->(d'=false->o'=l.take (k+1)/\putP s l=l.take (k+1)++putP s (l.drop (k+1))) ->
      ∀st',Wk st' ⟨[(1,.str s),(5,.sl 228009 0 o'.length),(6,.bool d'),(10,.ro 1 (aL l)),(11,.int .i64 l.length),(12,.int .i64 ((k+1:Nat):Int))],[(228009,.arr 1 (aL o'))]⟩->R1.ap st':=λo' d' h1 h2 h3 st' hw=>
   hR1 (k+1,o',d') _ (by simp only;omega) ⟨by simp only;omega,h1,h2,h3⟩ hw
  have hall:=tB o;have halls:=tB (o++[s]);rw[ZJ,ZQ]at halls
  cases d with
  | true=>
   have e1:=hd1 rfl;rw[hdr]at e1;generalize hx:l.getD k []=x at *
   have fin:∀st',Wk st' ⟨[(1,.str s),(5,.sl 228009 0 (o++[x]).length),(6,.bool true),(10,.ro 1 (aL l)),(11,.int .i64 l.length),(12,.int .i64 ((k+1:Nat):Int))],[(228009,.arr 1 (aL (o++[x])))]⟩->R1.ap st':=
    next (o++[x]) true (by rw[ZJ,ZQ];omega) (λ_=>by rw[aad];exact e1) (λh=>by cases h)
   rw[ZJ,ZQ]at fin;by_cases he:x=s
   ·subst he;refine cq @bz @fv hx @Eng.jn ?_;refine cV hN ?_;refine wW ?_;refine gG ?_;rw[hall,jT];exact⟨⟨gL,ZG⟩,fin _ (.le vV)⟩
   ·refine cM @bz @fv hx he @Eng.jn ?_;refine cV hN ?_;refine ah he ?_;refine bI he ?_;rw[hall,jT]
    exact⟨⟨gL,ZG⟩,fin _ (.le vV)⟩
  | false=>
   obtain⟨e1,e2⟩:=hd0 rfl;rw[hdr]at e2;generalize hx:l.getD k []=x at *
   have hok:o.length=k:=by rw[e1,ZL];omega
   by_cases he:x=s
   ·subst he
    have fin:∀st',Wk st' ⟨[(1,.str x),(5,.sl 228009 0 (o++[x]).length),(6,.bool true),(10,.ro 1 (aL l)),(11,.int .i64 l.length),(12,.int .i64 ((k+1:Nat):Int))],[(228009,.arr 1 (aL (o++[x])))]⟩->R1.ap st':=
     next (o++[x]) true (by rw[ZJ,ZQ];omega) (λ_=>by rw[e2,e1,putP,if_pos rfl,aad];rfl) (λh=>by cases h)
    rw[ZJ,ZQ]at fin;refine cq @bz @fv hx @Eng.jn ?_;refine cV hN ?_;refine wW ?_;refine gG ?_;rw[hall,jT];exact⟨⟨gL,ZG⟩,fin _ (.le vV)⟩
   ·cases hlx:Op.bytesLess s x with
    | true=>
     have fin:∀st',Wk st' ⟨[(1,.str s),(5,.sl 228009 0 (o++[s]++[x]).length),(6,.bool true),(10,.ro 1 (aL l)),(11,.int .i64 l.length),(12,.int .i64 ((k+1:Nat):Int))],[(228009,.arr 1 (aL (o++[s]++[x])))]⟩->R1.ap st':=
      next (o++[s]++[x]) true (by rw[ZJ,ZJ,ZQ,ZQ];omega) (λ_=>by rw[e2,e1,putP,if_neg he,if_pos hlx,aad,aad];rfl) (λh=>by cases h)
     rw[ZJ,ZJ,ZQ,ZQ]at fin;refine kH @bz @fv hx he hlx @Eng.jn ?_;refine cV hN ?_;simp(disch:=omega)only[go_sem,simprocAttr,he,Cc he hlx]
     (repeat(first | refine cJ ?_ | refine cH ?_ | refine cI ?_)<;>simp(disch:=omega)only[go_sem,simprocAttr,he,Cc he hlx])
     rw[hall,jT,halls,jT]
     exact⟨⟨gL,ZG⟩,⟨gL,ZG⟩,fin _ (.le vV)⟩
    | false=>
     have fin:∀st',Wk st' ⟨[(1,.str s),(5,.sl 228009 0 (o++[x]).length),(6,.bool false),(10,.ro 1 (aL l)),(11,.int .i64 l.length),(12,.int .i64 ((k+1:Nat):Int))],[(228009,.arr 1 (aL (o++[x])))]⟩->R1.ap st':=
      next (o++[x]) false (by rw[ZJ,ZQ];omega) (λh=>by cases h) (λ_=>⟨by rw[hsn,e1],by rw[e2,hsn,putP,if_neg he,if_neg (by rw[hlx];simp),aad];rfl⟩)
     rw[ZJ,ZQ]at fin;refine kH @bz @fv hx he hlx @Eng.jn ?_;refine cV hN ?_;simp(disch:=omega)only[go_sem,simprocAttr,he,Cd he hlx]
     (repeat(first | refine cJ ?_ | refine cH ?_ | refine cI ?_)<;>simp(disch:=omega)only[go_sem,simprocAttr,he,Cd he hlx])
     rw[hall,jT];exact⟨⟨gL,ZG⟩,fin _ (.le vV)⟩
 ·obtain rfl:k=l.length:=ZG;rw[ab9 (ZM _),ZK (ZM _)]at *
  have hall:=tB o
  cases d with
  | true=>
   have e1:=hd1 rfl;rw[aaw]at e1;rw[<-e1]at hR;refine ah @bz ?_
   exact hR.wk (h':=[(228009,.arr 1 (aL o))]) (r':=.sl 228009 0 o.length) (ar':=[.undef,.undef]) rfl (.le vV) ⟨rfl,rfl,rfl⟩
  | false=>
   obtain⟨e1,e2⟩:=hd0 rfl;have e3:putP s l=o++[s]:=by rw[e2,e1];rfl
   rw[e3]at hR;refine ah @bz ?_;rw[hall,jT];have hln:(o++[s]).length=o.length+1:=by rw[ZJ,ZQ]
   exact⟨⟨gL,ZG⟩,hR.wk (h':=[(228009,.arr 1 (aL (o++[s])))]) (r':=.sl 228009 0 (o++[s]).length) (ar':=[.undef,.undef]) rfl (.le (cU hln)) ⟨rfl,rfl,rfl⟩⟩
theorem Uk (l:List Bs) (s:Bs) (hl:l.length<=100000):aw Tryz.prog 54 [.ro 1 (aL l),.str s] (.ro 1 (aL (putP s l))):=by
 refine tq ?_
 have hm:∀{h:HP} {r:AV} {ar:List AV},(h=[(228009,.arr 1 (aL (putP s l)))]/\r=.sl 228009 0 (putP s l).length/\ar=[.undef,.undef])->∃h2 r2 as2,as2.length=ar.length/\Wk ⟨(0,r)::numbered 1 ar,h⟩ ⟨(0,r2)::numbered 1 as2,h2⟩/\(h2=[]/\r2=.ro 1 (aL (putP s l))):=by
  rintro h r ar ⟨rfl,rfl,rfl⟩;exact⟨[],.ro 1 (aL (putP s l)),[.undef,.undef],rfl,.bo 228009 (.le (cU @tB)),rfl,rfl⟩
 intro X0 ρ w vs h1 hA h2 h3 h4;refine(Uj l s hl X0 ρ w vs h1 hA h2 h3 h4).mono ?_;rintro e w' ⟨v,h',r,ρ',ar,q1,q2,q3⟩;exact⟨v,h',r,ρ',ar,q1,hm q2,q3⟩
theorem Yd (t:Bs) (fs:List Fi):(eB t fs).length<=fs.length:=by
 have key:∀(l acc:List Bs),(l.foldl (λo p=>putP p o) acc).length<=acc.length+l.length:=by
  intro l
  induction l with
  | nil=>intro acc;simp
  | cons p r ih=>
   intro acc;have h1:=ih (putP p acc);have h2:=Dg p acc;rw[abg,Z0];omega
 have h1:=key ((fs.filter (λf=>bu t f.1)).map (·.1)) [];have h2:((fs.filter (λf=>bu t f.1)).map (·.1)).length<=fs.length:=by rw[Z3];exact ach ..
 unfold eB;rw[aai]at h1;omega
theorem Yf {t:Bs} (l:List Fi) {f:Fi} (h:bu t f.1=true):eB t (l++[f])=putP f.1 (eB t l):=by
 unfold eB;rw[abf,aaS (p:=λf:Fi=>bu t f.1) h,ack,aaq,List.foldl_append];rfl
theorem Ye {t:Bs} (l:List Fi) {f:Fi} (h:bu t f.1=false):eB t (l++[f])=eB t l:=by
 unfold eB;rw[abf,aaB (p:=λf:Fi=>bu t f.1) (by rw[h];simp),ack,aaw]
theorem Dm (fs:List Fi) (t:Bs) (hl:fs.length<=10000) (ht:t.length<=9223372036854775807) (hp:∀f∈fs,f.1.length<=9223372036854775807):aw Tryz.prog 25 [.ro 2 (aQ fs),.str t] (.ro 1 (aL (eB t fs))):=by
 refine Cod.Um (λE R hN hR=>?_);refine ah @bD ?_
 refine aP hN (λk:Nat=>⟨[(1,.str t),(5,.ro 1 (aL (eB t (fs.take k)))),(9,.ro 2 (aQ fs)),(10,.int .i64 fs.length),(11,.int .i64 k)],[]⟩) (λk=>k<=fs.length) (λk=>fs.length-k) 0
  (.bo 227008 (.le (by simp(disch:=omega)only[go_sem,simprocAttr,aaU,show eB t []=[]from rfl,tC]))) (Z7 _) ?_
 rintro k R1 hk hR1;by_cases hlt:k<fs.length
 ·have hsn:=fb aJ fs hlt;have hul:=Yd t (fs.take k);rw[ZL]at hul;have hx:=hp _ (eK aJ hlt);have yes:bu t (fs.getD k aJ).1=true->eB t (fs.take (k+1))=putP (fs.getD k aJ).1 (eB t (fs.take k)):=λh=>by rw[hsn,Yf _ h]
  have no:bu t (fs.getD k aJ).1=false->eB t (fs.take (k+1))=eB t (fs.take k):=λh=>by rw[hsn,Ye _ h]
  obtain⟨U,hU⟩:∃U,U=eB t (fs.take k):=⟨_,rfl⟩;rw[<-hU]at yes no hul;rw[<-hU];refine aE @bD @fN ?_;refine an (Ug _ t hx ht) rfl rfl ?_
  cases hb:bu t (fs.getD k aJ).1 with
  | true=>
   refine wW ?_;refine an (Uk U (fs.getD k aJ).1 ZG) rfl rfl ?_;refine wW ?_
   exact hR1 (k+1) _ ZG ZG (.le (by rw[yes hb];exact vV))
  | false=>
   refine wW ?_;exact hR1 (k+1) _ ZG ZG (.le (by rw[no hb];exact vV))
 ·obtain rfl:k=fs.length:=ZG;rw[ZK (ZM _)];refine ah @bD ?_;exact hR.ro ⟨rfl,rfl⟩
theorem M5 (c:UInt8):fK c=(decide (48<=c.toNat/\c.toNat<=57)||decide (97<=c.toNat/\c.toNat<=102)):=by
 unfold fK kb;by_cases h1:48<=c.toNat/\c.toNat<=57
 ·rw[if_pos h1,decide_eq_true h1,decide_eq_true ZG];rfl
 ·rw[if_neg h1,decide_eq_false h1];by_cases h2:97<=c.toNat/\c.toNat<=102
  ·rw[if_pos h2,decide_eq_true h2,decide_eq_true ZG];rfl
  ·rw[if_neg h2,decide_eq_false h2,decide_eq_false ZG];rfl
set_option maxHeartbeats 1000000 in
theorem Ue (s:Bs) (hs:s.length<=9223372036854775806):aw Tryz.prog 55 [.str s] (.bool (iw s)):=by
 refine Cod.Uf (λE R hN hR=>?_);refine wW ?_;refine aP hN (λk:Nat=>⟨[(0,.str s),(3,.int .i64 k)],[]⟩) (λk=>k<=s.length/\(s.take k).all fK=true) (λk=>s.length-k) 0 (.le vV) ⟨Z7 _,rfl⟩ ?_;rintro k R1 ⟨hk,hall⟩ hR1;by_cases hlt:k<s.length
 ·have hsn:=fb 0 s hlt;have hm:=eK 0 hlt;have hi:=M5 (s.getD k 0)
  have yes:fK (s.getD k 0)=true->∀st',Wk st' ⟨[(0,.str s),(3,.int .i64 ((k+1:Nat):Int))],[]⟩->R1.ap st':=λh st' hw=>
   hR1 (k+1) _ ZG ⟨ZG,by rw[hsn,aa8,hall,aa9,h];rfl⟩ hw
  have bad:∀{h},fK (s.getD k 0)=false->R h (.bool false) [.undef]:=λh=>hR.ro ⟨rfl,by rw[iw,wO hm h];rfl⟩;have hc:=(s.getD k 0).toNat_lt
  have good:(48<=(s.getD k 0).toNat/\(s.getD k 0).toNat<=57)\/(97<=(s.getD k 0).toNat/\(s.getD k 0).toNat<=102)->fK (s.getD k 0)=true:=λh=>by
   rw[hi,aaW,decide_eq_true_eq,decide_eq_true_eq];exact h
  have evil:¬((48<=(s.getD k 0).toNat/\(s.getD k 0).toNat<=57)\/(97<=(s.getD k 0).toNat/\(s.getD k 0).toNat<=102))->fK (s.getD k 0)=false:=λh=>by
   rw[hi,abt,decide_eq_false_iff_not,decide_eq_false_iff_not];exact⟨λh1=>h (.inl h1),λh1=>h (.inr h1)⟩
  clear hi;by_cases h1:48<=(s.getD k 0).toNat
  ·by_cases h2:(s.getD k 0).toNat<=57
   ·refine aE h1 h2 ?_;refine ee h1 h2 ?_;exact yes (good ZG) _ (.le vV)
   ·by_cases h3:97<=(s.getD k 0).toNat
    ·by_cases h4:(s.getD k 0).toNat<=102
     ·refine cq h1 h2 h3 h4 ?_;refine kX h1 h2 h3 h4 ?_;exact yes (good ZG) _ (.le vV)
     ·refine cq h1 h2 h3 h4 ?_;refine kX h1 h2 h3 h4 ?_;exact bad (evil ZG)
    ·refine bU h1 h2 h3 ?_;refine iY h1 h2 h3 ?_;exact bad (evil ZG)
  ·refine ah h1 ?_;refine bI h1 ?_;exact bad (evil ZG)
 ·obtain rfl:k=s.length:=ZG;rw[ZK (ZM _)]at hall;by_cases h2:s.length%2=0
  ·have hm:(s.length:Int)%2=0:=ZG;refine ah hm ?_;exact hR.ro ⟨rfl,by rw[iw,hall,decide_eq_true h2];rfl⟩
  ·have hm:¬(s.length:Int)%2=0:=ZG;refine ah hm ?_;exact hR.ro ⟨rfl,by rw[iw,decide_eq_false h2];simp⟩
theorem Un (s:Bs) (hs:s.length<=9223372036854775806):aw Tryz.prog 26 [.str s] (.bool (cf s)):=by
 refine Cod.Uo (λE R hN hR=>?_);unfold cf at hR;by_cases h40:s.length=40
 ·have hi:(s.length:Int)=40:=ZG;rw[decide_eq_true h40,Bool.and_true]at hR;refine ah hi ?_;refine fH (eS vV (Ue s hs) vV rfl rfl ?_);refine wW ?_;exact hR.ro ⟨rfl,rfl⟩
 ·have hi:¬(s.length:Int)=40:=ZG;rw[decide_eq_false h40,Bool.and_false]at hR;refine ah hi ?_;refine bI hi ?_;exact hR.ro ⟨rfl,rfl⟩
open Eng
set_option maxRecDepth 10000
def insF (f:Fi):List Fi->List Fi
 | []=>[f]
 | x::r=>if Lib.compareBytes x.1 f.1<0 then x::insF f r else if x.1=f.1 then f::r else f::x::r
theorem vX (f y:Fi):∀L,y∈insF f L->y=f\/y∈L
 | [],h=>by simpa[insF]using h
 | x::r,h=>by
  have ih:=vX f y r;unfold insF at h;split at h
  ·rcases ZW.1 h with h | h;exact .inr (by rw[h];exact Z1 ..);exact(ih h).imp id (Z4 _)
  ·split at h
   ·rcases ZW.1 h with h | h;exact .inl h;exact .inr (Z4 _ h)
   ·rcases ZW.1 h with h | h;exact .inl h;exact .inr h
theorem BK (f:Fi):∀L,(insF f L).length<=L.length+1
 | []=>by simp[insF]
 | x::r=>by
  have ih:=BK f r;unfold insF;split
  ·simp only[Z0];omega
  ·split<;>simp only[Z0]<;>omega
theorem BJ (f:Fi) (q:Bs):∀L,(∃y∈insF f L,y.1=q)↔f.1=q\/∃y∈L,y.1=q
 | []=>by simp[insF]
 | x::r=>by
  have ih:=BJ f q r;unfold insF;split
  ·simp only[ZW,exists_eq_or_imp,ih];constructor
   ·rintro(h | h | h);exact .inr (.inl h);exact .inl h;exact .inr (.inr h)
   ·rintro(h | h | h);exact .inr (.inl h);exact .inl h;exact .inr (.inr h)
  ·split
   ·rename_i e;simp only[ZW,exists_eq_or_imp,e];constructor
    ·rintro(h | h);exact .inl h;exact .inr (.inr h)
    ·rintro(h | h | h);exact .inl h;exact .inl h;exact .inr h
   ·simp only[ZW,exists_eq_or_imp]
theorem BL (f:Fi):∀{L},dX L->dX (insF f L)
 | [],_=>by simp[insF,dX]
 | x::r,h=>by
  have h':=Z2.1 h;unfold insF;by_cases c:Lib.compareBytes x.1 f.1<0
  ·rw[if_pos c];refine Z2.2 ⟨λy hy=>?_,BL f h'.2⟩;rcases vX f y r hy with rfl | hy;exact c;exact h'.1 y hy
  ·rw[if_neg c];by_cases e:x.1=f.1
   ·rw[if_pos e];refine Z2.2 ⟨λy hy=>?_,h'.2⟩;have:=h'.1 y hy;unfold bM at this |-;rw[<-e];exact this
   ·rw[if_neg e]
    have hx:Lib.compareBytes f.1 x.1<0:=by
     have h1:=fi x.1 f.1;by_cases h0:Lib.compareBytes x.1 f.1=0;exact absurd (jA h0) e;omega
    refine Z2.2 ⟨λy hy=>?_,h⟩;rcases ZW.1 hy with rfl | hy;exact hx
    ·have:=h'.1 y hy;unfold bM at this |-;exact qU ZG this
theorem BI (f:Fi) (q:Bs):∀L,getF q (insF f L)=if f.1=q then some f.2 else getF q L
 | []=>by
  unfold insF getF;by_cases e:f.1=q
  ·rw[if_pos e,if_neg (by rw[e,j9];omega)]
  ·rw[if_neg e]
   split<;>rfl
 | x::r=>by
  have ih:=BI f q r;unfold insF;by_cases c:Lib.compareBytes x.1 f.1<0
  ·rw[if_pos c];unfold getF;rw[ih];by_cases e:f.1=q
   ·rw[if_pos e,if_pos (by rw[<-e];exact c),if_pos e]
   ·rw[if_neg e,if_neg e]
  ·rw[if_neg c];by_cases hx:x.1=f.1
   ·rw[if_pos hx];by_cases e:f.1=q
    ·rw[if_pos e];unfold getF;rw[if_neg (by rw[e,j9];omega),if_pos e]
    ·rw[if_neg e]
     conv=>rhs;unfold getF
     conv=>lhs;unfold getF
     rw[if_neg e,hx,if_neg e]
   ·rw[if_neg hx];by_cases e:f.1=q
    ·rw[if_pos e];unfold getF;rw[if_neg (by rw[e,j9];omega),if_pos e]
    ·rw[if_neg e]
     conv=>lhs;unfold getF
     rw[if_neg e];by_cases hq:Lib.compareBytes f.1 q<0
     ·rw[if_pos hq]
     ·rw[if_neg hq];have h1:=fi f.1 q;have h2:¬Lib.compareBytes x.1 q<0:=λh=>c (uO h ZG)
      have h3:x.1≠q:=λh=>by
       have h4:=fi x.1 f.1;rw[h]at h4 c;have h5:Lib.compareBytes q f.1=0:=ZG;exact e (jA h5).symm
      unfold getF;rw[if_neg h2,if_neg h3]
def gi:List Fi->List Fi
 | []=>[]
 | f::r=>insF f (gi r)
theorem wN:∀fs,dX (gi fs)
 | []=>.nil
 | f::r=>BL f (wN r)
theorem wM (y:Fi):∀fs,y∈gi fs->y∈fs
 | [],h=>h
 | f::r,h=>by
  rcases vX f y _ h with rfl | h;exact Z1 ..;exact Z4 _ (wM y r h)
theorem CL:∀fs,(gi fs).length<=fs.length
 | []=>ZM _
 | f::r=>by
  have h1:=BK f (gi r);have h2:=CL r;simp only[gi,Z0];omega
theorem CK (q:Bs):∀fs,(∃y∈gi fs,y.1=q)↔∃y∈fs,y.1=q
 | []=>Iff.rfl
 | f::r=>by
  simp only[gi,BJ,CK q r,ZW,exists_eq_or_imp]
theorem CJ (q:Bs):∀fs,getF q (gi fs)=fY q fs
 | []=>rfl
 | f::r=>by
  rw[gi,BI,CJ q r];unfold fY;by_cases e:f.1=q
  ·rw[if_pos e,aaS (by simpa using e)];rfl
  ·rw[if_neg e,aaB (by simpa using e)]
theorem RZ (t:Bs) (fs:List Fi):eB t fs=cY t (gi fs):=by
 rw[x7 t (wN fs)];refine xW (vD _ .nil) ?_ (λx=>?_);exact abZ.2 ((List.Pairwise.filter _ (wN fs)).imp (λh=>h))
 ·unfold eB;rw[vC];simp only[abv,false_or,aaL,List.mem_filter];have hk:=CK x fs;constructor
  ·rintro⟨f,⟨h1,h2⟩,rfl⟩;obtain⟨y,h3,h4⟩:=hk.2 ⟨f,h1,rfl⟩;exact⟨y,⟨h3,by rw[h4];exact h2⟩,h4⟩
  ·rintro⟨f,⟨h1,h2⟩,rfl⟩;obtain⟨y,h3,h4⟩:=hk.1 ⟨f,h1,rfl⟩;exact⟨y,⟨h3,by rw[h4];exact h2⟩,h4⟩
def pushL:List Bs->List Bs->List Bs
 | l,[]=>l
 | l,p::r=>if p∈l then pushL l r else pushL (l++[p]) r
theorem xn:∀(l ps:List Bs),∃t,pushL l ps=l++t
 | l,[]=>⟨[],by simp[pushL]⟩
 | l,p::r=>by
  unfold pushL;split;exact xn l r
  ·obtain⟨t,h⟩:=xn (l++[p]) r;exact⟨p::t,by rw[h];simp⟩
theorem xm:∀(l ps:List Bs),l.Nodup->(pushL l ps).Nodup
 | l,[],h=>h
 | l,p::r,h=>by
  unfold pushL;split;exact xm l r h
  ·rename_i hp;refine xm _ r (List.nodup_append.2 ⟨h,by simp,?_⟩);intro a ha b hb e;rw[Z9]at hb;exact hp (by rw[<-hb,<-e];exact ha)
theorem pU (x:Bs):∀(l ps:List Bs),x∈pushL l ps↔x∈l\/x∈ps
 | l,[]=>by simp[pushL]
 | l,p::r=>by
  unfold pushL;split
  ·rename_i hp;rw[pU x l r,ZW];constructor
   ·rintro(h | h);exact .inl h;exact .inr (.inr h)
   ·rintro(h | rfl | h);exact .inl h;exact .inl hp;exact .inr h
  ·rw[pU x _ r,aax,Z9,ZW,or_assoc]
theorem xl:∀(l ps:List Bs),(pushL l ps).length<=l.length+ps.length
 | l,[]=>by simp[pushL]
 | l,p::r=>by
  unfold pushL;split
  ·have:=xl l r;simp only[Z0];omega
  ·have:=xl (l++[p]) r;simp only[ZJ,Z0,aai]at this |-;omega
def ancP (cm:Bs->Int×List Bs) (most:Int):Nat->Nat->List Bs->Except Int (List Bs)
 | 0,_,l=>.ok l
 | n+1,i,l=>
  if i<l.length then
   if most<=(i:Int)then .error 11
   else if(cm (l.getD i [])).1≠0 then .error (cm (l.getD i [])).1
   else ancP cm most n (i+1) (pushL l (cm (l.getD i [])).2)
  else .ok l
theorem yF {cm:Bs->Int×List Bs} {most:Int}:∀{n i:Nat} {l r:List Bs},most+1<=(n:Int)+i->ancP cm most n i l=.ok r->1<=n ->
    (∃t,r=l++t)/\(l.Nodup->r.Nodup)/\((l.length:Int)<=most\/i<l.length\/(r=l))/\(∀j,i<=j->j<r.length->(cm (r.getD j [])).1=0/\(j:Int)<most/\∀p∈(cm (r.getD j [])).2,p∈r)
 | 0,_,_,_,_,_,h=>absurd h ZG
 | n+1,i,l,r,hn,h,_=>by
  unfold ancP at h;by_cases hi:i<l.length
  ·rw[if_pos hi]at h;by_cases hm:most<=(i:Int)
   ·rw[if_pos hm]at h;cases h
   rw[if_neg hm]at h;by_cases he:(cm (l.getD i [])).1≠0
   ·rw[if_pos he]at h;cases h
   rw[if_neg he]at h;have hn1:1<=n:=ZG;obtain⟨⟨t,h1⟩,h2,_,h3⟩:=yF ZG h hn1;obtain⟨u,hu⟩:=xn l (cm (l.getD i [])).2;refine⟨⟨u++t,by rw[h1,hu,aad]⟩,λhl=>h2 (xm _ _ hl),.inr (.inl hi),λj hj hjr=>?_⟩;by_cases e:j=i
   ·subst e
    have hg:r.getD j []=l.getD j []:=by
     rw[h1,hu,aad,ZH,List.getElem?_append_left hi,<-ZH]
    rw[hg];refine⟨ZG,ZG,λp hp=>?_⟩;rw[h1];exact aa4 _ ((pU p l _).2 (.inr hp))
   exact h3 j ZG hjr
  ·rw[if_neg hi]at h;cases h;exact⟨⟨[],by simp⟩,id,.inr (.inr rfl),λj hj hjr=>absurd hjr ZG⟩
theorem yH {cm:Bs->Int×List Bs} {most:Nat} {id:Bs} {r:List Bs} (h:ancP cm most (most+1) 0 [id]=.ok r) :
    (∃t,r=id::t)/\r.Nodup/\r.length<=most/\∀j,j<r.length->(cm (r.getD j [])).1=0/\∀p∈(cm (r.getD j [])).2,p∈r:=by
 obtain⟨⟨t,h1⟩,h2,_,h3⟩:=yF ZG h ZG;refine⟨⟨t,by rw[h1];rfl⟩,h2 (by simp),?_,λj hj=>⟨(h3 j ZG hj).1,(h3 j ZG hj).2.2⟩⟩;have h0:0<r.length:=by rw[h1];simp
 have:=(h3 (r.length-1) ZG ZG).2.1;omega
theorem Ck (k k':MK) (v:AV):∀l,mfind (mput l k v) k'=if k=k' then some v else mfind l k'
 | []=>rfl
 | (x,u)::r=>by
  have ih:=Ck k k' v r;unfold mput;by_cases h:x=k
  ·subst h;rw[if_pos rfl];unfold mfind;by_cases h2:x=k'
   ·rw[if_pos h2,if_pos h2]
   ·rw[if_neg h2,if_neg h2,if_neg h2]
  ·rw[if_neg h];unfold mfind;rw[ih];by_cases h2:x=k'
   ·rw[if_pos h2,if_pos h2,if_neg (λe=>h (by rw[h2,e]))]
   ·rw[if_neg h2,if_neg h2]
def oh (M:List (MK×AV)) (l:List Bs):Prop:=∀p,(mfind M (.s p)).getD (.bool false)=.bool (decide (p∈l))
theorem VL (x:Bs):oh [(.s x,.bool true)] [x]:=λp=>by
 unfold mfind;by_cases h:x=p
 ·subst h;simp
 ·rw[if_neg (λe=>h (MK.s.inj e))];have:¬p=x:=λe=>h e.symm;simp[mfind,this]
theorem VM {M:List (MK×AV)} {l:List Bs} (h:oh M l) (x:Bs):oh (mput M (.s x) (.bool true)) (l++[x]):=λp=>by
 rw[Ck];by_cases e:x=p
 ·subst e;simp
 ·rw[if_neg (λh=>e (MK.s.inj h)),h p];have:¬p=x:=λh=>e h.symm;simp[this]
theorem xo (p:Bs):∀(ps l:List Bs),pushL l (ps++[p])=if p∈pushL l ps then pushL l ps else pushL l ps++[p]
 | [],l=>rfl
 | x::r,l=>by
  show(if x∈l then pushL l (r++[p])else pushL (l++[x]) (r++[p]))=_
  have e:pushL l (x::r)=if x∈l then pushL l r else pushL (l++[x]) r:=rfl
  rw[e];by_cases h:x∈l
  ·rw[if_pos h,if_pos h];exact xo p r l
  ·rw[if_neg h,if_neg h];exact xo p r _
theorem T2 (l ps:List Bs) {k:Nat} (h:k<ps.length):pushL l (ps.take (k+1))=if ps.getD k []∈pushL l (ps.take k)then pushL l (ps.take k)else pushL l (ps.take k)++[ps.getD k []]:=by
 rw[fb [] ps h,xo]
theorem yE {cm:Bs->Int×List Bs} {most:Int} {Q:Bs->Prop} (hq:∀x,∀p∈(cm x).2,Q p):∀{n i:Nat} {l r:List Bs},ancP cm most n i l=.ok r->(∀x∈l,Q x)->∀x∈r,Q x
 | 0,_,_,_,h,hl=>by cases h;exact hl
 | n+1,i,l,r,h,hl=>by
  unfold ancP at h;split at h
  ·split at h
   ·cases h
   ·split at h
    ·cases h
    ·refine yE hq h (λx hx=>?_);rcases(pU x _ _).1 hx with hx | hx;exact hl x hx;exact hq _ x hx
  ·cases h;exact hl
theorem yG {cm:Bs->Int×List Bs} {most:Int} {e:Int}:∀{n i:Nat} {l:List Bs},ancP cm most n i l=.error e->e≠0
 | 0,_,_,h=>by cases h
 | n+1,i,l,h=>by
  unfold ancP at h;split at h
  ·split at h
   ·cases h;decide
   ·split at h
    ·rename_i hc;cases h;exact hc
    exact yG h
  ·cases h
end Go.Proofs.YtkdjbebgdoohjaaGreatDoor.Ls
