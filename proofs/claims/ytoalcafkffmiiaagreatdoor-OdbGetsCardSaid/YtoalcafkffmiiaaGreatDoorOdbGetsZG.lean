/- The proof, part 33 of 43. -/
import Derived.Test.YtoalcafkffmiiaaGreatDoorOdbGetsZF
import Derived.Lib.SplitLaws
set_option linter.all false
namespace Go.Proofs.YtoalcafkffmiiaaGreatDoor.Ls
open Eng
set_option maxRecDepth 10000
theorem nr:∀a b:Bs,Op.bytesLess a b=decide (Lib.compareBytes a b = -1)
 | [],[]=>rfl
 | [],_::_=>rfl
 | _::_,[]=>rfl
 | x::r,y::t=>by
  have ih:=nr r t;rw[Op.bytesLess,Lib.compareBytes,ih];by_cases h1:x<y
  ·simp[h1]
  ·by_cases h2:y<x
   ·have:¬x=y:=λe=>by subst e;exact h1 h2
    simp[h1,h2,this]
   ·have:x=y:=by
     simp only[adF]at h1 h2;exact UInt8.toNat.inj acN
    simp[this]
def putP (s:Bs):List Bs->List Bs
 | []=>[s]
 | x::r=>if x=s then x::r else if Op.bytesLess s x=true then s::x::r else x::putP s r
def eP (l:List Bs):Prop:=l.Pairwise (λa b=>Lib.compareBytes a b<0)
theorem yq (s y:Bs):∀l:List Bs,y∈putP s l↔y=s\/y∈l
 | []=>by simp[putP]
 | x::r=>by
  have ih:=yq s y r;unfold putP;split
  ·rename_i h;subst h;simp
  ·split
   ·simp
   ·rw[adg,ih,adg];constructor
    ·rintro(h | h | h)<;>simp[h]
    ·rintro(h | h | h)<;>simp[h]
theorem EU (s:Bs):∀{l:List Bs},eP l->eP (putP s l)
 | [],_=>aee _ _
 | x::r,h=>by
  have h':=adp.1 h;unfold putP;split;exact h
  ·rename_i hne;split
   ·rename_i hl;rw[nr,decide_eq_true_eq]at hl;refine adp.2 ⟨λy hy=>?_,h⟩;rcases adg.1 hy with rfl | hy;omega
    ·have:=h'.1 y hy;exact sn acN this
   ·rename_i hl;rw[nr,decide_eq_true_eq]at hl;refine adp.2 ⟨λy hy=>?_,EU s h'.2⟩;rcases(yq s y r).1 hy with rfl | hy
    ·have h1:=vU y x;have h2:=gr y x;have h3:Lib.compareBytes y x≠0:=λh=>hne (lp h).symm;omega
    exact h'.1 y hy
def cQ (t:Bs) (fs:List Fi):List Bs:=((fs.filter (λf=>aJ t f.1)).map (·.1)).foldl (λo p=>putP p o) []
theorem s5 (y:Bs):∀(l acc:List Bs),y∈l.foldl (λo p=>putP p o) acc↔y∈acc\/y∈l
 | [],acc=>by simp
 | p::r,acc=>by
  rw[aeI,s5 y r,yq,adg];constructor
  ·rintro((h | h) | h)<;>simp[h]
  ·rintro(h | h | h)<;>simp[h]
theorem s6:∀(l:List Bs) {acc:List Bs},eP acc->eP (l.foldl (λo p=>putP p o) acc)
 | [],_,h=>h
 | p::r,_,h=>s6 r (EU p h)
theorem zg:∀{a b:List Bs},eP a->eP b->(∀x,x∈a↔x∈b)->a=b
 | [],[],_,_,_=>rfl
 | [],y::b,_,_,h=>by have:=(h y).2 (ac6 ..);simp at this
 | x::a,[],_,_,h=>by have:=(h x).1 (ac6 ..);simp at this
 | x::a,y::b,ha,hb,h=>by
  have ha':=adp.1 ha;have hb':=adp.1 hb
  have hxy:x=y:=by
   rcases adg.1 ((h x).1 (ac6 ..))with e | h1;exact e
   ·rcases adg.1 ((h y).2 (ac6 ..))with e | h2;exact e.symm
    ·have e1:=hb'.1 x h1;have e2:=ha'.1 y h2;have:=gr x y;omega
  subst hxy
  have hno:∀{l:List Bs},(∀z∈l,Lib.compareBytes x z<0)->x∉l:=λh1 h2=>by
   have:=h1 x h2;rw[l7]at this;omega
  rw[zg ha'.2 hb'.2 (λz=>by
   have hz:=h z;rw[adg,adg]at hz;constructor
   ·intro hm;rcases hz.1 (.inr hm)with e | h1;exact absurd (e▸hm) (hno ha'.1);exact h1
   ·intro hm;rcases hz.2 (.inr hm)with e | h1;exact absurd (e▸hm) (hno hb'.1)
    ·exact h1)]
theorem vI (a b:UInt8) (t s:Bs):aJ (a::t) (b::s)=(decide (a=b)&&aJ t s):=by
 unfold aJ;by_cases h:a=b
 ·subst h;simp
 ·have h':¬b=a:=λe=>h e.symm;simp[h,h']
theorem Jp (s:Bs):aJ [] s=true:=by simp[aJ]
theorem Aq (a:UInt8) (t:Bs):aJ (a::t) []=false:=by simp[aJ]
theorem vJ:∀{t s:Bs},aJ t s=true->Lib.compareBytes t s<=0
 | [],[],_=>by simp[Lib.compareBytes]
 | [],_::_,_=>by simp[Lib.compareBytes]
 | a::t,[],h=>by rw[Aq]at h;cases h
 | a::t,b::s,h=>by
  rw[vI,acX,decide_eq_true_eq]at h;obtain⟨rfl,h⟩:=h;have:=vJ h;simpa[Lib.compareBytes,adF]using this
theorem vH:∀{t y z:Bs},Lib.compareBytes t y<=0->Lib.compareBytes y z<=0->aJ t z=true->aJ t y=true
 | [],y,_,_,_,_=>Jp y
 | a::t,y,[],_,_,h=>by rw[Aq]at h;cases h
 | a::t,[],z::zs,h,_,_=>by simp[Lib.compareBytes]at h
 | a::t,c::y,b::z,h1,h2,h3=>by
  rw[vI,acX,decide_eq_true_eq]at h3;obtain⟨rfl,h3⟩:=h3;simp only[Lib.compareBytes,adF]at h1 h2;by_cases hc:a.toNat=c.toNat
  ·have hc:=UInt8.toNat.inj hc;subst hc;simp only[aeS,if_false]at h1 h2;rw[vI,decide_eq_true rfl,afi];exact vH h1 h2 h3
  ·exfalso
   split at h1
   ·rename_i h;rw[if_neg acN,if_pos h]at h2;omega
   ·rw[if_pos acN]at h1;omega
theorem GJ (t:Bs):∀{L:List Fi},fi L->(∀f∈L,Lib.compareBytes t f.1<=0)->L.takeWhile (λf=>aJ t f.1)=L.filter (λf=>aJ t f.1)
 | [],_,_=>rfl
 | x::r,hs,hg=>by
  have hs':=adp.1 hs;rw[aeC];by_cases h:aJ t x.1=true
  ·rw[if_pos h,adw (p:=λf:Fi=>aJ t f.1) h,GJ t hs'.2 (λf hf=>hg f (ada _ hf))]
  ·rw[if_neg h,adj (p:=λf:Fi=>aJ t f.1) h,eq_comm,ae3];intro y hy hb;have h1:=hs'.1 y hy;exact h (vH (hg x (ac6 ..)) (by unfold cv at h1;omega) hb)
theorem GR (t:Bs):∀{L:List Fi},fi L->bU t L=(L.filter (λf=>aJ t f.1)).map (·.1)
 | [],_=>rfl
 | x::r,hs=>by
  have hs':=adp.1 hs;by_cases h:Lib.compareBytes x.1 t<0
  ·have ih:=GR t hs'.2
   have hno:¬aJ t x.1=true:=λhb=>by
    have h1:=vJ hb;have:=gr x.1 t;omega
   rw[adj (p:=λf:Fi=>aJ t f.1) hno,<-ih];unfold bU;rw[show posF t (x::r)=posF t r+1 by simp only[posF];rw[if_pos h],adP]
  ·have hge:∀f∈x::r,Lib.compareBytes t f.1<=0:=λf hf=>by
    have h0:Lib.compareBytes t x.1<=0:=by have:=gr x.1 t;omega
    rcases adg.1 hf with rfl | hf;exact h0
    ·have h1:=hs'.1 f hf;exact l8 _ _ _ h0 (by unfold cv at h1;omega)
   unfold bU;rw[show posF t (x::r)=0 by simp only[posF];rw[if_neg h],ado,GJ t hs hge]
theorem zp {L fs:List Fi} (hs:fi L) (hp:L.Perm fs) (t:Bs):cQ t fs=bU t L:=by
 rw[GR t hs];refine zg (s6 _ .nil) ?_ (λx=>?_);exact List.pairwise_map.2 ((List.Pairwise.filter _ hs).imp (λh=>h))
 ·unfold cQ;rw[s5];simp only[List.not_mem_nil,false_or,adN,aeM];constructor
  ·rintro⟨f,⟨h1,h2⟩,rfl⟩;exact⟨f,⟨hp.mem_iff.2 h1,h2⟩,rfl⟩
  ·rintro⟨f,⟨h1,h2⟩,rfl⟩;exact⟨f,⟨hp.mem_iff.1 h1,h2⟩,rfl⟩
def iy (p:Bs):Bs:=(p.drop 8).take 2++p.drop 11
def iX (p:Bs):Bool:=decide (p.length=49)&&decide (p.getD 10 0=47)&&bJ (iy p)
theorem CW {c:UInt8} (h:fv c=true):c≠47:=λe=>by subst e;exact absurd h (by decide)
theorem X2 {a b:UInt8} {m:Bs} (ha:a≠47) (hb:b≠47):Lib.replace (a::b::47::m) [47] [] 1=a::b::m:=by
 have hi:Lib.index (a::b::47::m) [47]=((2:Nat):Int):=by
  rw[Lib.index_one];simp[Lib.indexByte,ha,hb]
 have hc:Lib.count (a::b::47::m) [47]=m.count 47+1:=by
  rw[Lib.count_one];simp[List.count_cons,ha,hb]
 unfold Lib.replace;rw[if_neg (by decide)]
 have hn:Lib.replaceNum (a::b::47::m) [47] 1=1:=by
  unfold Lib.replaceNum;rw[hc,if_neg acN];rfl
 rw[hn,Lib.replaceK_hit _ _ _ _ 2 hi];rfl
theorem Lk {p:Bs} (h:aJ bH p=true):iX p=iZ p/\(iX p=true->iy p=bu p):=by
 have h1:iZ p=true->iX p=true:=λhn=>by
  unfold iZ at hn;rw[acX,decide_eq_true_eq]at hn;obtain⟨h2,h3⟩:=hn;have h40:=(pb h2).1;generalize bu p=n at *
  match n,h40 with
  | a::b::m,h40=>
   have hc:iy (eX (a::b::m))=a::b::m:=by simp[iy,eX,bH]
   rw[<-h3];unfold iX;rw[hc,h2];have hm:m.length=38:=by simpa using h40
   simp[eX,bH,hm]
 have h2:iX p=true->iZ p=true/\iy p=bu p:=λhc=>by
  unfold iX at hc;rw[acX,acX,decide_eq_true_eq,decide_eq_true_eq]at hc;obtain⟨⟨hl,hg⟩,hid⟩:=hc;have ht:p.take 8=bH:=(of_decide_eq_true h).2;have hp:p=bH++p.drop 8:=by rw[<-ht];exact(ae7 8 p).symm
  have hq:(p.drop 8).length=41:=by rw[acU];omega
  generalize p.drop 8=q at *
  subst hp
  match q,hq with
  | a::b::c::m,hq=>
   have hc:c=47:=by simpa[bH]using hg
   subst hc;have hcut:iy (bH++a::b::47::m)=a::b::m:=by simp[iy,bH]
   rw[hcut]at hid |-
   have hx:(a::b::m).all fv=true:=by
    unfold bJ gz at hid;rw[acX,acX]at hid;exact hid.1.1
   simp only[adY,acX]at hx
   have hn:bu (bH++a::b::47::m)=a::b::m:=by
    unfold bu;rw[show(bH++a::b::47::m).drop 8=a::b::47::m from rfl];exact X2 (CW hx.1) (CW hx.2.1)
   refine⟨?_,hn.symm⟩;unfold iZ;rw[hn,hid];simp[eX]
 refine⟨?_,λhc=>(h2 hc).2⟩
 cases hc:iX p with
 | true=>exact(h2 hc).1.symm
 | false=>
  cases hn:iZ p with
  | true=>rw[h1 hn]at hc;cases hc
  | false=>rfl
def dG (ps:List Bs):List Bs:=(ps.filter iX).map iy
theorem xM:∀{ps:List Bs},(∀p∈ps,aJ bH p=true)->dG ps=dH ps
 | [],_=>rfl
 | p::r,h=>by
  obtain⟨h1,h2⟩:=Lk (h p (ac6 ..));have ih:=xM (ps:=r) (λq hq=>h q (ada _ hq));unfold dG dH at ih |-
  cases hc:iX p with
  | true=>
   rw[adw hc,adw (by rw[<-h1];exact hc),adi,adi,ih,h2 hc]
  | false=>
   rw[adj (by rw[hc];simp),adj (by rw[<-h1,hc];simp),ih]
def dm (p:Bs) (fs:List Fi):Option Bs:=((fs.filter (λf=>decide (f.1=p))).map (·.2)).head?
theorem Cc {L fs:List Fi} (hs:fi L) (hp:L.Perm fs) (p:Bs):dm p fs=getF p L:=by
 unfold dm;rw[U4 hp hs p];cases getF p L<;>rfl
theorem QV (s:Bs) (h:Ob.ib s≠0):Ob.bu (Ob.ib s)≠[]:=by
 unfold Ob.ib at h |-
 (repeat' split)<;>first | decide | skip
 simp_all
theorem LX {s:Bs} (h:(Ob.gX s).2.2=0):Ob.ee (Ob.gX s).1 (Ob.gX s).2.1=0:=by
 unfold Ob.gX at h |-;split at h
 ·simp at h
 ·split at h
  ·simp at h
  ·split at h
   ·simp at h
   ·split at h
    ·simp at h
    ·split at h
     ·simp at h
     ·rename_i h1 h2 h3 h4 h5;rw[if_neg h1,if_neg h2,if_neg h3,if_neg h4,if_neg h5];simp only;unfold Ob.ee;rw[if_neg (QV _ h2),if_neg acN]
def lJ (id:Bs) (x:Int×Bs×Int):Int×Bs×Int:=if x.2.2≠0 then(0,[],x.2.2)else if Sh.bC (Sh.cY (Ob.gN x.1 x.2.1))=id then(x.1,x.2.1,0)else(0,[],5)
theorem GS {s:Bs} (h:(dN s).2.2=0):Ob.ee (dN s).1 (dN s).2.1=0:=by
 unfold dN at h |-;split at h
 ·rename_i h1;exact absurd (Int.natCast_eq_zero.1 h) h1
 ·split at h
  ·simp at h
  ·rename_i h1 h2;rw[if_neg h1,if_neg h2];exact LX h
theorem UK (id s:Bs):lJ id (dN s)=jM id (dN s):=by
 unfold lJ jM;by_cases h:(dN s).2.2=0
 ·have h':¬(dN s).2.2≠0:=λh'=>h' h;rw[if_neg h',if_neg h'];unfold kQ;rw[if_pos (GS h)]
 ·rw[if_pos h,if_pos h]
open Eng Ob Pk
set_option maxRecDepth 10000
theorem yx (s t:Bs) (hs:s.length<=9223372036854775807) (ht:t.length<=9223372036854775807):ao Tryz.prog 57 [.str s,.str t] (.bool (aJ t s)):=by
 refine Cod.Xc (λE R hN hR=>?_);by_cases h:t.length<=s.length
 ·have hi:(t.length:Int)<=(s.length:Int):=acN;refine ab hi ?_;refine aV hi ?_;refine hR.ro ⟨rfl,?_⟩;simp[aJ,h]
 ·have hi:¬(t.length:Int)<=(s.length:Int):=acN;refine ab hi ?_;refine aV hi ?_;exact hR.ro ⟨rfl,by simp[aJ,h]⟩
abbrev ua (o:Option Bs):AV:=.af [.str (o.getD []),.bool o.isSome]
theorem Fh (fs:List Fi) (p:Bs) (hl:fs.length<=100000):ao Tryz.prog 51 [.ro 2 (a8 fs),.str p] (ua (dm p fs)):=by
 refine Cod.Xd (λE R hN hR=>?_);refine ab @bX ?_;refine aD hN (λk:Nat=>⟨[(1,.str p),(8,.ro 2 (a8 fs)),(9,.int .i64 fs.length),(10,.int .i64 k)],[]⟩) (λk=>k<=fs.length/\(fs.take k).filter (λf=>decide (f.1=p))=[]) (λk=>fs.length-k) 0 (.le vV) ⟨ac9 _,rfl⟩ ?_;rintro k R1 ⟨hk,hno⟩ hR1;by_cases hlt:k<fs.length
 ·have hsn:=dj aP fs hlt
  have hsp:fs=fs.take k++fs.getD k aP::fs.drop (k+1):=by
   have hdr:fs.drop k=fs.getD k aP::fs.drop (k+1):=by
    rw[acO,List.getElem?_eq_getElem hlt];exact adt hlt
   rw[<-hdr,ae7]
  have yes:(fs.getD k aP).1=p->dm p fs=some (fs.getD k aP).2:=λh=>by
   unfold dm;rw[hsp,adG,hno,ady,<-hsp,adw (by simpa using h)];rfl
  refine aE @bX @iq ?_;refine oU (λhe=>?_) (λhe=>?_)
  ·rw[yes he]at hR;refine wW ?_;exact hR.ro ⟨rfl,rfl⟩
  ·refine wW ?_;exact hR1 (k+1) _ acN ⟨acN,by rw[hsn,adG,hno,adj (by simpa using he)];rfl⟩ (.le vV)
 ·obtain rfl:k=fs.length:=acN;rw[acP (acT _)]at hno;have:dm p fs=none:=by unfold dm;rw[hno];rfl
  rw[this]at hR;refine wW ?_;exact hR.ro ⟨rfl,rfl⟩
theorem DC {x s:Bs} (h:¬x=s) (hl:Op.bytesLess s x=true):Op.bytesLess x s=false:=by
 rw[nr,decide_eq_true_eq]at hl;rw[nr,decide_eq_false_iff_not];have:=gr s x;omega
theorem DD {x s:Bs} (h:¬x=s) (hl:Op.bytesLess s x=false):Op.bytesLess x s=true:=by
 rw[nr,decide_eq_false_iff_not]at hl;rw[nr,decide_eq_true_eq];have h1:=gr s x;have h2:=vU x s;have h3:Lib.compareBytes x s≠0:=λe=>h (lp e);omega
theorem yp (s:Bs):∀l:List Bs,(putP s l).length<=l.length+1
 | []=>by simp[putP]
 | x::r=>by
  have:=yp s r;unfold putP;split
  ·simp
  ·split
   ·simp
   ·simp only[adb];omega
set_option maxHeartbeats 1000000 in
theorem yy (l:List Bs) (s:Bs) (hl:l.length<=100000):Eng.Spec Tryz.prog 58 [] [.ro 1 (au l),.str s] (λh r ar=>h=[(228009,.arr 1 (au (putP s l)))]/\r=.sl 228009 0 (putP s l).length/\ar=[.undef,.undef]):=by
 refine Cod.Xf (λE R hN hR=>?_);refine ab @aZ ?_
 refine aD hN (λq:Nat×List Bs×Bool=>⟨[(1,.str s),(5,.sl 228009 0 q.2.1.length),(6,.bool q.2.2),(10,.ro 1 (au l)),(11,.int .i64 l.length),(12,.int .i64 q.1)],[(228009,.arr 1 (au q.2.1))]⟩)
  (λq=>q.1<=l.length/\q.2.1.length<=q.1+1/\(q.2.2=true->q.2.1++l.drop q.1=putP s l)/\(q.2.2=false->q.2.1=l.take q.1/\putP s l=l.take q.1++putP s (l.drop q.1))) (λq=>l.length-q.1) (0,[],false) (.le ?_) ⟨ac9 _,by simp,by simp,by simp⟩ ?_
 ·simp(disch:=omega)only[go_sem,simprocAttr,adn,lT]
 rintro⟨k,o,d⟩ R1 ⟨hk,hol,hd1,hd0⟩ hR1;simp only at hk hol hd1 hd0;by_cases hlt:k<l.length
 ·have hdr:l.drop k=l.getD k []::l.drop (k+1):=by
   rw[acO,List.getElem?_eq_getElem hlt];exact adt hlt
  have hsn:=dj [] l hlt
  have next:∀(o':List Bs) (d':Bool),o'.length<=k+2->(d'=true->o'++l.drop (k+1)=putP s l)->(d'=false->o'=l.take (k+1)/\putP s l=l.take (k+1)++putP s (l.drop (k+1))) ->
      ∀st',Wk st' ⟨[(1,.str s),(5,.sl 228009 0 o'.length),(6,.bool d'),(10,.ro 1 (au l)),(11,.int .i64 l.length),(12,.int .i64 ((k+1:Nat):Int))],[(228009,.arr 1 (au o'))]⟩->R1.ap st':=λo' d' h1 h2 h3 st' hw=>
   hR1 (k+1,o',d') _ (by simp only;omega) ⟨by simp only;omega,h1,h2,h3⟩ hw
  have hall:=pz o;have halls:=pz (o++[s]);rw[acQ,acW]at halls
  cases d with
  | true=>
   have e1:=hd1 rfl;rw[hdr]at e1;generalize hx:l.getD k []=x at *
   have fin:∀st',Wk st' ⟨[(1,.str s),(5,.sl 228009 0 (o++[x]).length),(6,.bool true),(10,.ro 1 (au l)),(11,.int .i64 l.length),(12,.int .i64 ((k+1:Nat):Int))],[(228009,.arr 1 (au (o++[x])))]⟩->R1.ap st':=
    next (o++[x]) true (by rw[acQ,acW];omega) (λ_=>by rw[adC];exact e1) (λh=>by cases h)
   rw[acQ,acW]at fin;by_cases he:x=s
   ·subst he;refine bV @aZ @fA hx @Eng.jn ?_;refine dY hN ?_;refine wW ?_;refine gG ?_;rw[hall,ji];exact⟨⟨dM,acN⟩,fin _ (.le vV)⟩
   ·refine cN @aZ @fA hx he @Eng.jn ?_;refine dY hN ?_;refine ab he ?_;refine aV he ?_;rw[hall,ji]
    exact⟨⟨dM,acN⟩,fin _ (.le vV)⟩
  | false=>
   obtain⟨e1,e2⟩:=hd0 rfl;rw[hdr]at e2;generalize hx:l.getD k []=x at *
   have hok:o.length=k:=by rw[e1,acS];omega
   by_cases he:x=s
   ·subst he
    have fin:∀st',Wk st' ⟨[(1,.str x),(5,.sl 228009 0 (o++[x]).length),(6,.bool true),(10,.ro 1 (au l)),(11,.int .i64 l.length),(12,.int .i64 ((k+1:Nat):Int))],[(228009,.arr 1 (au (o++[x])))]⟩->R1.ap st':=
     next (o++[x]) true (by rw[acQ,acW];omega) (λ_=>by rw[e2,e1,putP,if_pos rfl,adC];rfl) (λh=>by cases h)
    rw[acQ,acW]at fin;refine bV @aZ @fA hx @Eng.jn ?_;refine dY hN ?_;refine wW ?_;refine gG ?_;rw[hall,ji];exact⟨⟨dM,acN⟩,fin _ (.le vV)⟩
   ·cases hlx:Op.bytesLess s x with
    | true=>
     have fin:∀st',Wk st' ⟨[(1,.str s),(5,.sl 228009 0 (o++[s]++[x]).length),(6,.bool true),(10,.ro 1 (au l)),(11,.int .i64 l.length),(12,.int .i64 ((k+1:Nat):Int))],[(228009,.arr 1 (au (o++[s]++[x])))]⟩->R1.ap st':=
      next (o++[s]++[x]) true (by rw[acQ,acQ,acW,acW];omega) (λ_=>by rw[e2,e1,putP,if_neg he,if_pos hlx,adC,adC];rfl) (λh=>by cases h)
     rw[acQ,acQ,acW,acW]at fin;refine lg @aZ @fA hx he hlx @Eng.jn ?_;refine dY hN ?_;simp(disch:=omega)only[go_sem,simprocAttr,he,DC he hlx]
     (repeat(first | refine cC ?_ | refine cz ?_ | refine cB ?_)<;>simp(disch:=omega)only[go_sem,simprocAttr,he,DC he hlx])
     rw[hall,ji,halls,ji]
     exact⟨⟨dM,acN⟩,⟨dM,acN⟩,fin _ (.le vV)⟩
    | false=>
     have fin:∀st',Wk st' ⟨[(1,.str s),(5,.sl 228009 0 (o++[x]).length),(6,.bool false),(10,.ro 1 (au l)),(11,.int .i64 l.length),(12,.int .i64 ((k+1:Nat):Int))],[(228009,.arr 1 (au (o++[x])))]⟩->R1.ap st':=
      next (o++[x]) false (by rw[acQ,acW];omega) (λh=>by cases h) (λ_=>⟨by rw[hsn,e1],by rw[e2,hsn,putP,if_neg he,if_neg (by rw[hlx];simp),adC];rfl⟩)
     rw[acQ,acW]at fin;refine lg @aZ @fA hx he hlx @Eng.jn ?_;refine dY hN ?_;simp(disch:=omega)only[go_sem,simprocAttr,he,DD he hlx]
     (repeat(first | refine cC ?_ | refine cz ?_ | refine cB ?_)<;>simp(disch:=omega)only[go_sem,simprocAttr,he,DD he hlx])
     rw[hall,ji];exact⟨⟨dM,acN⟩,fin _ (.le vV)⟩
 ·obtain rfl:k=l.length:=acN;rw[afz (acT _),acP (acT _)]at *
  have hall:=pz o
  cases d with
  | true=>
   have e1:=hd1 rfl;rw[adz]at e1;rw[<-e1]at hR;refine ab @aZ ?_
   exact hR.wk (h':=[(228009,.arr 1 (au o))]) (r':=.sl 228009 0 o.length) (ar':=[.undef,.undef]) rfl (.le vV) ⟨rfl,rfl,rfl⟩
  | false=>
   obtain⟨e1,e2⟩:=hd0 rfl;have e3:putP s l=o++[s]:=by rw[e2,e1];rfl
   rw[e3]at hR;refine ab @aZ ?_;rw[hall,ji];have hln:(o++[s]).length=o.length+1:=by rw[acQ,acW]
   exact⟨⟨dM,acN⟩,hR.wk (h':=[(228009,.arr 1 (au (o++[s])))]) (r':=.sl 228009 0 (o++[s]).length) (ar':=[.undef,.undef]) rfl (.le (cn hln)) ⟨rfl,rfl,rfl⟩⟩
theorem Xe (l:List Bs) (s:Bs) (hl:l.length<=100000):ao Tryz.prog 58 [.ro 1 (au l),.str s] (.ro 1 (au (putP s l))):=by
 refine ri ?_
 have hm:∀{h:HP} {r:AV} {ar:List AV},(h=[(228009,.arr 1 (au (putP s l)))]/\r=.sl 228009 0 (putP s l).length/\ar=[.undef,.undef])->∃h2 r2 as2,as2.length=ar.length/\Wk ⟨(0,r)::numbered 1 ar,h⟩ ⟨(0,r2)::numbered 1 as2,h2⟩/\(h2=[]/\r2=.ro 1 (au (putP s l))):=by
  rintro h r ar ⟨rfl,rfl,rfl⟩;exact⟨[],.ro 1 (au (putP s l)),[.undef,.undef],rfl,.bj 228009 (.le (cn @pz)),rfl,rfl⟩
 intro X0 ρ w vs h1 hA h2 h3 h4;refine(yy l s hl X0 ρ w vs h1 hA h2 h3 h4).mono ?_;rintro e w' ⟨v,h',r,ρ',ar,q1,q2,q3⟩;exact⟨v,h',r,ρ',ar,q1,hm q2,q3⟩
theorem uX (t:Bs) (fs:List Fi):(cQ t fs).length<=fs.length:=by
 have key:∀(l acc:List Bs),(l.foldl (λo p=>putP p o) acc).length<=acc.length+l.length:=by
  intro l
  induction l with
  | nil=>intro acc;simp
  | cons p r ih=>
   intro acc;have h1:=ih (putP p acc);have h2:=yp p acc;rw[aeI,adb];omega
 have h1:=key ((fs.filter (λf=>aJ t f.1)).map (·.1)) [];have h2:((fs.filter (λf=>aJ t f.1)).map (·.1)).length<=fs.length:=by rw[ac7];exact adH ..
 unfold cQ;rw[adn]at h1;omega
theorem abr {t:Bs} (l:List Fi) {f:Fi} (h:aJ t f.1=true):cQ t (l++[f])=putP f.1 (cQ t l):=by
 unfold cQ;rw[adG,adw (p:=λf:Fi=>aJ t f.1) h,adQ,adr,afu];rfl
theorem abq {t:Bs} (l:List Fi) {f:Fi} (h:aJ t f.1=false):cQ t (l++[f])=cQ t l:=by
 unfold cQ;rw[adG,adj (p:=λf:Fi=>aJ t f.1) (by rw[h];simp),adQ,adz]
theorem Fk (fs:List Fi) (t:Bs) (hl:fs.length<=10000) (ht:t.length<=9223372036854775807) (hp:∀f∈fs,f.1.length<=9223372036854775807):ao Tryz.prog 53 [.ro 2 (a8 fs),.str t] (.ro 1 (au (cQ t fs))):=by
 refine Cod.Xh (λE R hN hR=>?_);refine ab @bX ?_
 refine aD hN (λk:Nat=>⟨[(1,.str t),(5,.ro 1 (au (cQ t (fs.take k)))),(9,.ro 2 (a8 fs)),(10,.int .i64 fs.length),(11,.int .i64 k)],[]⟩) (λk=>k<=fs.length) (λk=>fs.length-k) 0
  (.bj 227008 (.le (by simp(disch:=omega)only[go_sem,simprocAttr,adI,show cQ t []=[]from rfl,lT]))) (ac9 _) ?_
 rintro k R1 hk hR1;by_cases hlt:k<fs.length
 ·have hsn:=dj aP fs hlt;have hul:=uX t (fs.take k);rw[acS]at hul;have hx:=hp _ (dT aP hlt);have yes:aJ t (fs.getD k aP).1=true->cQ t (fs.take (k+1))=putP (fs.getD k aP).1 (cQ t (fs.take k)):=λh=>by rw[hsn,abr _ h]
  have no:aJ t (fs.getD k aP).1=false->cQ t (fs.take (k+1))=cQ t (fs.take k):=λh=>by rw[hsn,abq _ h]
  obtain⟨U,hU⟩:∃U,U=cQ t (fs.take k):=⟨_,rfl⟩;rw[<-hU]at yes no hul;rw[<-hU];refine aE @bX @iq ?_;refine ah (yx _ t hx ht) rfl rfl ?_
  cases hb:aJ t (fs.getD k aP).1 with
  | true=>
   refine wW ?_;refine ah (Xe U (fs.getD k aP).1 acN) rfl rfl ?_;refine wW ?_
   exact hR1 (k+1) _ acN acN (.le (by rw[yes hb];exact vV))
  | false=>
   refine wW ?_;exact hR1 (k+1) _ acN acN (.le (by rw[no hb];exact vV))
 ·obtain rfl:k=fs.length:=acN;rw[acP (acT _)];refine ab @bX ?_;exact hR.ro ⟨rfl,rfl⟩
theorem O3 (c:UInt8):fv c=(decide (48<=c.toNat/\c.toNat<=57)||decide (97<=c.toNat/\c.toNat<=102)):=by
 unfold fv lu;by_cases h1:48<=c.toNat/\c.toNat<=57
 ·rw[if_pos h1,decide_eq_true h1,decide_eq_true acN];rfl
 ·rw[if_neg h1,decide_eq_false h1];by_cases h2:97<=c.toNat/\c.toNat<=102
  ·rw[if_pos h2,decide_eq_true h2,decide_eq_true acN];rfl
  ·rw[if_neg h2,decide_eq_false h2,decide_eq_false acN];rfl
set_option maxHeartbeats 1000000 in
theorem E8 (s:Bs) (hs:s.length<=9223372036854775806):ao Tryz.prog 60 [.str s] (.bool (gz s)):=by
 refine Cod.Wt (λE R hN hR=>?_);refine wW ?_;refine aD hN (λk:Nat=>⟨[(0,.str s),(3,.int .i64 k)],[]⟩) (λk=>k<=s.length/\(s.take k).all fv=true) (λk=>s.length-k) 0 (.le vV) ⟨ac9 _,rfl⟩ ?_;rintro k R1 ⟨hk,hall⟩ hR1;by_cases hlt:k<s.length
 ·have hsn:=dj 0 s hlt;have hm:=dT 0 hlt;have hi:=O3 (s.getD k 0)
  have yes:fv (s.getD k 0)=true->∀st',Wk st' ⟨[(0,.str s),(3,.int .i64 ((k+1:Nat):Int))],[]⟩->R1.ap st':=λh st' hw=>
   hR1 (k+1) _ acN ⟨acN,by rw[hsn,adU,hall,adY,h];rfl⟩ hw
  have bad:∀{h},fv (s.getD k 0)=false->R h (.bool false) [.undef]:=λh=>hR.ro ⟨rfl,by rw[gz,xW hm h];rfl⟩;have hc:=(s.getD k 0).toNat_lt
  have good:(48<=(s.getD k 0).toNat/\(s.getD k 0).toNat<=57)\/(97<=(s.getD k 0).toNat/\(s.getD k 0).toNat<=102)->fv (s.getD k 0)=true:=λh=>by
   rw[hi,aex,decide_eq_true_eq,decide_eq_true_eq];exact h
  have evil:¬((48<=(s.getD k 0).toNat/\(s.getD k 0).toNat<=57)\/(97<=(s.getD k 0).toNat/\(s.getD k 0).toNat<=102))->fv (s.getD k 0)=false:=λh=>by
   rw[hi,aff,decide_eq_false_iff_not,decide_eq_false_iff_not];exact⟨λh1=>h (.inl h1),λh1=>h (.inr h1)⟩
  clear hi;by_cases h1:48<=(s.getD k 0).toNat
  ·by_cases h2:(s.getD k 0).toNat<=57
   ·refine aE h1 h2 ?_;refine cO h1 h2 ?_;exact yes (good acN) _ (.le vV)
   ·by_cases h3:97<=(s.getD k 0).toNat
    ·by_cases h4:(s.getD k 0).toNat<=102
     ·refine bV h1 h2 h3 h4 ?_;refine kJ h1 h2 h3 h4 ?_;exact yes (good acN) _ (.le vV)
     ·refine bV h1 h2 h3 h4 ?_;refine kJ h1 h2 h3 h4 ?_;exact bad (evil acN)
    ·refine bp h1 h2 h3 ?_;refine gy h1 h2 h3 ?_;exact bad (evil acN)
  ·refine ab h1 ?_;refine aV h1 ?_;exact bad (evil acN)
 ·obtain rfl:k=s.length:=acN;rw[acP (acT _)]at hall;by_cases h2:s.length%2=0
  ·have hm:(s.length:Int)%2=0:=acN;refine ab hm ?_;exact hR.ro ⟨rfl,by rw[gz,hall,decide_eq_true h2];rfl⟩
  ·have hm:¬(s.length:Int)%2=0:=acN;refine ab hm ?_;exact hR.ro ⟨rfl,by rw[gz,decide_eq_false h2];simp⟩
theorem yz (s:Bs) (hs:s.length<=9223372036854775806):ao Tryz.prog 50 [.str s] (.bool (bJ s)):=by
 refine Cod.Xm (λE R hN hR=>?_);unfold bJ at hR;by_cases h40:s.length=40
 ·have hi:(s.length:Int)=40:=acN;rw[decide_eq_true h40,afh]at hR;refine ab hi ?_;refine eI (gq vV (E8 s hs) vV rfl rfl ?_);refine wW ?_;exact hR.ro ⟨rfl,rfl⟩
 ·have hi:¬(s.length:Int)=40:=acN;rw[decide_eq_false h40,afI]at hR;refine ab hi ?_;refine aV hi ?_;exact hR.ro ⟨rfl,rfl⟩
theorem Xp (s:Bs) (h2:2<=s.length) (hs:s.length<=1000000):ao Tryz.prog 14 [.str s] (.str (eX s)):=by
 refine Cod.Xq (λE R hN hR=>?_);have hi:(2:Int)<=(s.length:Int):=acN;refine ab hi ?_;exact hR.ro ⟨rfl,by rw[eX,bH];simp⟩
theorem Xt (s:Bs) (hs:s.length<=1000000):ao Tryz.prog 52 [.str s] (eh (dN s)):=by
 refine Cod.Xu (λE R hN hR=>?_);have h1:=Fg s 0 65536 hs (ac9 _) (acT _);rw[ado]at h1;have hz:=pF s 65536;unfold dN at hR;generalize eG s 65536=Z at *
 obtain⟨t,n,e⟩:=Z;simp only at hR hz;refine wW ?_;refine ah h1 rfl rfl ?_;by_cases he:e=0
 ·subst he;by_cases hn:n=s.length
  ·subst hn;rw[if_neg (by simp),if_neg (by simp)]at hR;have hdc:=XL t acN;generalize gX t=x at *
   obtain⟨k,d,e⟩:=x;unfold eh dV at hdc hR;refine wW ?_;refine ah hdc rfl rfl ?_;refine wW ?_;exact hR.ro ⟨rfl,rfl⟩
  ·rw[if_neg (by simp),if_pos hn]at hR;have hi:¬(n:Int)=(s.length:Int):=acN;refine ab hi ?_;exact hR.ro ⟨rfl,rfl⟩
 ·rw[if_pos he]at hR;have hi:¬(e:Int)=0:=acN;refine ab hi ?_;exact hR.ro ⟨rfl,rfl⟩
def XQ (id:Bs):Option Bs->Int×Bs×Int
 | none=>(0,[],7)
 | some d=>lJ id (dN d)
def ns (id:Bs) (fs:List Fi):Int×Bs×Int:=if bJ id=true then XQ id (dm (eX id) fs)else(0,[],4)
theorem look_eq {L fs:List Fi} (hs:fi L) (hp:L.Perm fs) (id:Bs):ns id fs=lF id L:=by
 unfold ns lF;rw[Cc hs hp];by_cases h:bJ id=true
 ·rw[if_pos h,if_pos h]
  cases getF (eX id) L with
  | none=>rfl
  | some d=>exact UK id d
 ·rw[if_neg h,if_neg h]
theorem Nw {p d:Bs} {fs:List Fi} (h:dm p fs=some d):∃f∈fs,f.2=d:=by
 unfold dm at h;have h1:=List.mem_of_head? h;obtain⟨f,hf,rfl⟩:=adN.1 h1;exact⟨f,(aeM.1 hf).1,rfl⟩
set_option maxHeartbeats 1000000 in
theorem Xr (fs:List Fi) (id:Bs) (hl:fs.length<=100000) (hd:∀f∈fs,f.2.length<=1000000) (hi:id.length<=140737488351232):ao Tryz.prog 15 [.ro 2 (a8 fs),.str id] (eh (ns id fs)):=by
 refine Cod.Xs (λE R hN hR=>?_);unfold ns at hR;have h1:=yz id acN;refine wW ?_;by_cases hid:bJ id=true;rotate_left
 ·rw[if_neg hid]at hR;have hid:bJ id=false:=by simpa using hid
  rw[hid]at h1;refine ah h1 rfl rfl ?_;refine wW ?_;exact hR.ro ⟨rfl,rfl⟩
 rw[if_pos hid]at hR;rw[hid]at h1;have h40:=(pb hid).1;refine ah h1 rfl rfl ?_;refine wW ?_;refine ah (Xp id acN acN) rfl rfl ?_;refine wW ?_;have h2:=Fh fs (eX id) hl;refine ah h2 rfl rfl ?_
 cases hg:dm (eX id) fs with
 | none=>
  rw[hg]at hR;simp(disch:=first | omega | (simp only[Lx];omega))only[go_sem,simprocAttr,afb,adf]
  exact hR.ro ⟨rfl,rfl⟩
 | some d=>
  rw[hg]at hR;obtain⟨f,hf,hfd⟩:=Nw hg;have hdl:=hd f hf;rw[hfd]at hdl;have h3:=Xt d hdl;have hul:=GU d;have hkr:=QW d;have hck:(dN d).2.2=0->ee (dN d).1 (dN d).2.1=0:=GS;have hR:c7 (λh r _=>h=[]/\r=eh (lJ id (dN d))) R:=hR;obtain⟨x,hx⟩:∃x,x=dN d:=⟨_,rfl⟩;rw[<-hx]at hR hul h3 hck hkr;clear hx;obtain⟨k,t,e⟩:=x;unfold lJ at hR;simp only at hR hul hck hkr;unfold eh dV at h3;simp only at h3;simp(disch:=first | omega | (simp only[Lx];omega))only[go_sem,simprocAttr,ad0,adl]
  refine ah h3 rfl rfl ?_;by_cases he:e=0
  ·subst he;rw[if_neg (by simp)]at hR;have hrid:=Fx k t acN acN (A9 (hck rfl));unfold dV at hrid;refine wW ?_;refine ah hrid rfl rfl ?_;generalize Sh.bC (Sh.cY (gN k t))=is at *
   by_cases hx:is=id
   ·rw[if_pos hx]at hR;simp(disch:=first | omega | (simp only[Lx];omega))only[go_sem,simprocAttr,hx]
    exact hR.ro ⟨rfl,rfl⟩
   ·rw[if_neg hx]at hR;simp(disch:=first | omega | (simp only[Lx];omega))only[go_sem,simprocAttr,hx]
    exact hR.ro ⟨rfl,rfl⟩
  ·rw[if_pos he]at hR;simp(disch:=first | omega | (simp only[Lx];omega))only[go_sem,simprocAttr,he]
   exact hR.ro ⟨rfl,rfl⟩
theorem SF (ps:List Bs) {p:Bs} (h:iX p=true):dG (ps++[p])=dG ps++[iy p]:=by
 unfold dG;rw[adG,adw h,adQ,adr];rfl
theorem SE (ps:List Bs) {p:Bs} (h:iX p=false):dG (ps++[p])=dG ps:=by
 unfold dG;rw[adG,adj (by rw[h];simp),adQ,adz]
theorem xL (ps:List Bs):(dG ps).length<=ps.length:=by
 unfold dG;rw[ac7];exact adH ..
set_option maxHeartbeats 1000000 in
theorem Xn (fs:List Fi) (hl:fs.length<=10000) (hp:∀f∈fs,f.1.length<=9223372036854775807):ao Tryz.prog 56 [.ro 2 (a8 fs)] (.ro 1 (au (dG (cQ bH fs)))):=by
 refine Cod.Xo (λE R hN hR=>?_);refine wW ?_;refine ah (Fk fs bH hl (by decide) hp) rfl rfl ?_;have hul:=uX bH fs;generalize cQ bH fs=U at *
 refine ab @aZ ?_
 refine aD hN (λk:Nat=>⟨[(3,.sl 234006 0 (dG (U.take k)).length),(8,.ro 1 (au U)),(9,.int .i64 U.length),(10,.int .i64 k)],[(234006,.arr 1 (au (dG (U.take k))))]⟩) (λk=>k<=U.length) (λk=>U.length-k) 0
  (.le (by simp(disch:=first | omega | (simp only[Lx];omega))only[go_sem,simprocAttr,adI,lT,show dG []=[]from rfl,adn])) (ac9 _) ?_
 rintro k R1 hk hR1;by_cases hlt:k<U.length
 ·have hsn:=dj [] U hlt;have hsl:=xL (U.take k);rw[acS]at hsl;obtain⟨O,hO⟩:∃O,O=dG (U.take k):=⟨_,rfl⟩;obtain⟨p,hpe⟩:∃p,p=U.getD k []:=⟨_,rfl⟩;rw[<-hpe]at hsn
  have no:iX p=false->∀st',Wk st' ⟨[(3,.sl 234006 0 O.length),(8,.ro 1 (au U)),(9,.int .i64 U.length),(10,.int .i64 ((k+1:Nat):Int))],[(234006,.arr 1 (au O))]⟩->R1.ap st':=λh st' hw=>
   hR1 (k+1) _ acN acN (by rw[hsn,SE _ h,<-hO];exact hw)
  have yes:iX p=true->∀st',Wk st' ⟨[(3,.sl 234006 0 (O++[iy p]).length),(8,.ro 1 (au U)),(9,.int .i64 U.length),(10,.int .i64 ((k+1:Nat):Int))],[(234006,.arr 1 (au (O++[iy p])))]⟩->R1.ap st':=λh st' hw=>
   hR1 (k+1) _ acN acN (by rw[hsn,SF _ h,<-hO];exact hw)
  rw[<-hO]at hsl;rw[<-hO];have hall:=pz O;unfold iX at no yes;by_cases hpl:p.length=49;rotate_left
  ·have hi:¬(p.length:Int)=49:=acN;simp(disch:=first | omega | (simp only[Lx];omega))only[go_sem,simprocAttr,aZ,fA,<-hpe,hi]
   (repeat(first | refine cC ?_ | refine cz ?_ | refine cB ?_)<;>simp(disch:=first | omega | (simp only[Lx];omega))only[go_sem,simprocAttr,aZ,fA,<-hpe,hi])
   exact no (by rw[decide_eq_false hpl];rfl) _ (.le vV)
  have hi:(p.length:Int)=49:=acN;rw[decide_eq_true hpl,afi]at no yes;have hcut:(p.take 10).drop 8=(p.drop 8).take 2:=by rw[afJ]
  by_cases hg:p.getD 10 0=47;rotate_left
  ·have hgn:¬(p.getD 10 0).toNat=47:=λe=>hg (UInt8.toNat.inj e);simp(disch:=first | omega | (simp only[Lx];omega))only[go_sem,simprocAttr,aZ,fA,<-hpe,hi,hgn]
   (repeat(first | refine cC ?_ | refine cz ?_ | refine cB ?_)<;>simp(disch:=first | omega | (simp only[Lx];omega))only[go_sem,simprocAttr,aZ,fA,<-hpe,hi,hgn])
   exact no (by rw[decide_eq_false hg];rfl) _ (.le vV)
  rw[decide_eq_true hg,afi]at no yes;have hrid:=yz (iy p) (by unfold iy;rw[acQ,acS,acU,acU];omega);unfold iy at hrid;simp(disch:=first | omega | (simp only[Lx];omega))only[go_sem,simprocAttr,aZ,fA,<-hpe,hi,hg]
  (repeat(first | refine cC ?_ | refine cz ?_ | refine cB ?_)<;>simp(disch:=first | omega | (simp only[Lx];omega))only[go_sem,simprocAttr,aZ,fA,<-hpe,hi,hg])
  refine eI (gq vV hrid vV rfl rfl ?_);unfold iy at no yes
  cases hid:bJ ((p.drop 8).take 2++p.drop 11)with
  | true=>
   refine ab hi ?_;rw[hall,ji]
   exact⟨⟨dM,acN⟩,yes hid _ (.le (by rw[acQ,acW];exact vV))⟩
  | false=>
   refine wW ?_;exact no hid _ (.le vV)
 ·obtain rfl:k=U.length:=acN;rw[acP (acT _)];have hall:=pz (dG U);refine ab @aZ ?_;exact hR.wk (h':=[]) (r':=.ro 1 (au (dG U))) (ar':=[.undef]) rfl (.bj 234006 (.le (cn hall))) ⟨rfl,rfl⟩
theorem Fj (xs ys:List Bs) (h1:xs.length<=1000000) (h2:ys.length<=1000000):ao Tryz.prog 20 [.ro 1 (au xs),.ro 1 (au ys)] (.bool (decide (xs=ys))):=by
 refine Cod.Xg (λE R hN hR=>?_);by_cases hl:xs.length=ys.length;rotate_left
 ·have hi:¬(xs.length:Int)=(ys.length:Int):=acN;refine aE @aZ hi ?_;exact hR.ro ⟨rfl,by rw[decide_eq_false (λe=>hl (by rw[e]))]⟩
 have hi:(xs.length:Int)=(ys.length:Int):=acN;refine aE @aZ hi ?_;refine aD hN (λk:Nat=>⟨[(0,.ro 1 (au xs)),(1,.ro 1 (au ys)),(12,.int .i64 xs.length),(13,.int .i64 k)],[]⟩) (λk=>k<=xs.length/\xs.take k=ys.take k) (λk=>xs.length-k) 0 (.le (cn hi)) ⟨acN,by simp⟩ ?_;rintro k R2 ⟨hk,hc⟩ hR2;by_cases hlt:k<xs.length
 ·have e1:=dj [] xs hlt;have e2:=dj [] ys (by omega:k<ys.length);refine aE @aZ @fA ?_;refine oU (λhe=>?_) (λhe=>?_)
  ·refine wW ?_;refine hR.ro ⟨rfl,?_⟩;rw[decide_eq_false (λe=>he (by rw[e]))]
  ·have he:=Decidable.not_not.1 he;refine wW ?_;exact hR2 (k+1) _ acN ⟨acN,by rw[e1,e2,hc,he]⟩ (.le vV)
 ·obtain rfl:k=xs.length:=acN;have:xs=ys:=by rw[acP acN,acP acN]at hc;exact hc
  refine wW ?_;exact hR.ro ⟨rfl,by rw[decide_eq_true this]⟩
end Go.Proofs.YtoalcafkffmiiaaGreatDoor.Ls
