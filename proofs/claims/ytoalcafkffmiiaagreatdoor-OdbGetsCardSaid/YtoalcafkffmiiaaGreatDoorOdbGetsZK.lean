/- The proof, part 37 of 43. -/
import Derived.Test.YtoalcafkffmiiaaGreatDoorOdbGetsZI
import Derived.Test.YtoalcafkffmiiaaGreatDoorOdbGetsZJ
import Derived.Shelf.Strings.Repeat
set_option linter.all false
namespace Go.Proofs.YtoalcafkffmiiaaGreatDoor.Ls
open Eng
set_option maxRecDepth 10000
def dw (t:Bs) (ps:List aO):List Bs:=ps.flatMap λp=>jb t p.2.2.1
theorem PJ (t:Bs) (ps:List aO) (p:aO):dw t (ps++[p])=dw t ps++jb t p.2.2.1:=by unfold dw;simp
def eZ (ps:List aO):Prop:=∀p∈ps,p.2.2.1.length<=1000/\eP (p.2.2.1.map (·.1))/\∀r∈p.2.2.1,bJ r.1=true
theorem xz {L:List Rw} (h:eP (L.map (·.1))):fi (kf L):=by
 unfold fi kf;unfold eP at h;rw[List.pairwise_map]at h |-;exact h
theorem DN (t:Bs) (L:List Rw):(jb t L).length<=L.length:=by
 have:=mF t (kf L)
 rwa[tB]at this
theorem qv (t:Bs):∀{ps:List aO},eZ ps->(dw t ps).length<=1000*ps.length
 | [],_=>by simp[dw]
 | p::r,h=>by
  have h1:=qv t (ps:=r) (λq hq=>h q (ada _ hq));have h2:=DN t p.2.2.1;have h3:=(h p (ac6 ..)).1;unfold dw at *
  rw[aey,acQ,adb];omega
theorem yj {ps:List aO} (h:eZ ps) (k:Nat):eZ (ps.take k):=λp hp=>h p (aeu hp)
theorem aaG {l m:List Bs}:au l++au m=au (l++m):=by simp[au]
theorem nP (l:List Bs):aB (au l) 0 l.length=au l:=by
 unfold aB;rw[ado,acP (by rw[aZ];omega)]
def jN (t:Bs) (L:List Fi):List Bs:=(dH (bU bH L)).filter (aJ t)
def fw (t:Bs) (L:List Fi) (ps:List aO):List Bs:=kU (jN t L++dw t ps)
theorem Bh (l:List Bs):∀m,(Lib.compactUpTo l.toArray m).length<=m
 | 0=>by simp[Lib.compactUpTo]
 | m+1=>by
  have:=Bh l m;rw[Lib.compactUpTo_succ,acQ];split<;>simp<;>omega
theorem v7 (l:List Bs):(Lib.compact l).length<=l.length:=by
 have:=Bh l l.toArray.size;unfold Lib.compact;simpa using this
theorem Eo (l:List Bs):(kU l).length<=l.length:=by
 have h1:=v7 (y5 l)
 rwa[aeP]at h1
theorem xU (t:Bs) {L:List Fi} {ps:List aO} (hl:L.length<=100) (hps:eZ ps) (hpl:ps.length<=100):(fw t L ps).length<=1000000:=by
 have h1:=Eo (jN t L++dw t ps);have h2:=qv t hps
 have h3:(jN t L).length<=L.length:=by
  have a:=adH (aJ t) (dH (bU bH L));have b:=xN (bU bH L);have c:=mF bH L;unfold jN;omega
 have h4:1000*ps.length<=1000*100:=aem _ hpl;rw[acQ]at h1;unfold fw;omega
set_option maxHeartbeats 4000000 in
theorem UC (L:List Fi) (n:Nat) (ps:List aO) (t:Bs) (hs:eO L) (hl:L.length<=100) (hc:∀f∈L,f.1.length<=200) (hps:eZ ps) (hpl:ps.length<=100) (ht:t.length<=140737488351232) :
    Eng.Spec Tryz.prog 11 [] [jd L n ps,.str t] (λh r ar=>h=[(247042,.arr 1 (au (je (sortL (jN t L++dw t ps)))))]/\r=.sl 247042 0 (fw t L ps).length/\ar=[.undef,.undef]):=by
 refine Cod.UD (λE R hN hR=>?_);refine wW ?_;refine aI [] (SM L n hs acN hc) trivial (λ_=>rfl) ?_;rintro h' v ar ⟨rfl,rfl,rfl⟩;have hul:=mF bH L;have hll:=xN (bU bH L);have hlm:∀x∈dH (bU bH L),x.length=40:=λx hx=>DE hx;unfold fw jN at hR;generalize dH (bU bH L)=U at *
 refine bp @aZ @dM @Gp ?_
 refine aD hN (λk:Nat=>⟨[(0,jd L n ps),(1,.str t),(5,.sl 247026 0 ((U.take k).filter (aJ t)).length),(14,.ro 1 (au U)),(15,.int .i64 U.length),(16,.int .i64 k)],[(247026,.arr 1 (au ((U.take k).filter (aJ t))))]⟩) (λk=>k<=U.length) (λk=>U.length-k) 0
  (.bj 213034 (.nil 5 247026 1 rfl (.le (by simp(disch:=omega)only[go_sem,simprocAttr,adI,lT,adQ,adn,nP])))) (ac9 _) ?_
 rintro k R1 hk hR1
 have hfl:((U.take k).filter (aJ t)).length<=k:=by
  have:=adH (aJ t) (U.take k);rw[acS]at this;omega
 by_cases hlt:k<U.length
 ·have hsn:=dj [] U hlt;have hm:=hlm _ (dT [] hlt);have hb:=yV (U.getD k []) t acN acN;refine aE @aZ @fA ?_;refine ah hb rfl rfl ?_
  cases hbb:aJ t (U.getD k [])with
  | false=>
   refine wW ?_
   exact hR1 (k+1) _ acN acN (.le (by rw[hsn,adG,adj (by rw[hbb];simp),adQ,adz];exact vV))
  | true=>
   obtain⟨O,hO⟩:∃O,O=(U.take k).filter (aJ t):=⟨_,rfl⟩;rw[<-hO]at hfl;rw[<-hO];refine ab @aZ ?_;rw[nP,ji];refine⟨⟨dM,acN⟩,hR1 (k+1) _ acN acN (.le (by rw[hsn,adG,adw hbb,adQ,<-hO,acQ,acW];exact vV))⟩
 ·obtain rfl:k=U.length:=acN;rw[acP (acT _)]at hfl;rw[acP (acT _)];generalize U.filter (aJ t)=O at *
  refine aE @aZ @lL ?_
  have htk:∀k,(dw t (ps.take k)).length<=1000*ps.length:=λk=>by
   have h1:=qv t (yj hps k);rw[acS]at h1;have:1000*min k ps.length<=1000*ps.length:=aem _ (Nat.min_le_right ..);omega
  refine aD hN (λk:Nat=>⟨[(1,.str t),(5,.sl 247042 0 (O++dw t (ps.take k)).length),(31,.ro 2 (fC ps)),(32,.int .i64 ps.length),(33,.int .i64 k)],[(247042,.arr 1 (au (O++dw t (ps.take k))))]⟩) (λk=>k<=ps.length) (λk=>ps.length-k) 0
   (.jx 247026 247042 rfl rfl (.le (by simp(disch:=omega)only[go_sem,simprocAttr,adI,dw,List.flatMap_nil,adz]))) (ac9 _) ?_
  rintro k R2 hk hR2;have hpk:=htk k;by_cases hlt:k<ps.length
  ·have hsn:=dj fy ps hlt;obtain⟨p,hp⟩:∃p,p=ps.getD k fy:=⟨_,rfl⟩;obtain⟨g1,g2,g3⟩:=hps p (by rw[hp];exact dT fy hlt);have hml:=DN t p.2.2.1;have hx:=acr p.2.1 p.2.2 t (xz g2).rk acN acN (λr hr=>by have:=(xm (g3 r hr)).1;omega);have hin:=PJ t (ps.take k) p;rw[<-hp]at hsn;rw[<-hsn]at hin;obtain⟨Q,hQ⟩:∃Q,Q=O++dw t (ps.take k):=⟨_,rfl⟩;have hQl:Q.length=O.length+(dw t (ps.take k)).length:=by rw[hQ,acQ]
   rw[<-hQ];simp(disch:=omega)only[go_sem,simprocAttr,lL,Ee,<-hp];refine ah hx rfl rfl ?_;have hnx:dw t (ps.take (k+1))=dw t (ps.take k)++jb t p.2.2.1:=hin;obtain⟨M,hM⟩:∃M,M=jb t p.2.2.1:=⟨_,rfl⟩;rw[<-hM]at hnx hml;rw[<-hM];refine ab @aZ ?_;rw[nP,aaG];refine⟨⟨dM,dM,acN⟩,hR2 (k+1) _ acN acN (.le (by rw[hnx,<-adC,<-hQ,acQ];exact vV))⟩
  ·obtain rfl:k=ps.length:=acN;rw[acP (acT _)]at hpk;rw[acP (acT _)];obtain⟨Z,hZ⟩:∃Z,Z=O++dw t ps:=⟨_,rfl⟩;have hZl:Z.length=O.length+(dw t ps).length:=by rw[hZ,acQ]
   have hZb:Z.length<=1000000:=by
    have:1000*ps.length<=1000*100:=aem _ hpl;omega
   rw[<-hZ]at hR;rw[<-hZ];refine ab @lL ?_;refine sk (n:=1) [5] vV vV rfl (ZT 247042 Z hZb) ?_;rintro h' v ar ⟨rfl,rfl,rfl⟩;have hsl:(sortL Z).length=Z.length:=aeP _;have hcl:=v7 (sortL Z);have hco:=ZS 247042 (sortL Z) acN hcl;rw[hsl]at hco hcl;refine wW ?_;refine sk (n:=1) [5] vV vV rfl hco ?_;rintro h' v ar ⟨rfl,rfl,rfl⟩;have hpl2:(je (sortL Z)).length=Z.length:=by unfold je;rw[acQ,adh];omega
   refine wW ?_;exact hR.wk (h':=[(247042,.arr 1 (au (je (sortL Z))))]) (r':=.sl 247042 0 (kU Z).length) (ar':=[.undef,.undef]) rfl (.le (by simp(disch:=omega)only[go_sem,simprocAttr,show(kU Z).length=(Lib.compact (sortL Z)).length from rfl])) ⟨rfl,rfl,rfl⟩
theorem Vf (Z:List Bs):aB (au (je (sortL Z))) 0 (kU Z).length=au (kU Z):=by
 show aB (au (je (sortL Z))) 0 (Lib.compact (sortL Z)).length=au (Lib.compact (sortL Z))
 unfold aB je au;rw[ado,adr,afn (ac7 ..)]
theorem Ve (Z:List Bs):(je (sortL Z)).length=Z.length/\(kU Z).length<=Z.length:=by
 have hsl:(sortL Z).length=Z.length:=aeP _;have hcl:=v7 (sortL Z);refine⟨?_,Eo Z⟩;unfold je;rw[acQ,adh];omega
theorem x7 (L:List Fi) (n:Nat) (ps:List aO) (t:Bs) (hs:eO L) (hl:L.length<=100) (hc:∀f∈L,f.1.length<=200) (hps:eZ ps) (hpl:ps.length<=100) (ht:t.length<=140737488351232) :
    ao Tryz.prog 11 [jd L n ps,.str t] (.ro 1 (au (fw t L ps))):=by
 refine ri ?_
 have hm:∀{h:HP} {r:AV} {ar:List AV},(h=[(247042,.arr 1 (au (je (sortL (jN t L++dw t ps)))))]/\r=.sl 247042 0 (fw t L ps).length/\ar=[.undef,.undef])->∃h2 r2 as2,as2.length=ar.length/\Wk ⟨(0,r)::numbered 1 ar,h⟩ ⟨(0,r2)::numbered 1 as2,h2⟩/\(h2=[]/\r2=.ro 1 (au (fw t L ps))):=by
  rintro h r ar ⟨rfl,rfl,rfl⟩;have h1:=Vf (jN t L++dw t ps);have h2:=Ve (jN t L++dw t ps);unfold fw;generalize kU (jN t L++dw t ps)=O at *
  generalize je (sortL (jN t L++dw t ps))=A at *
  exact⟨[],.ro 1 (au O),[.undef,.undef],rfl,.bj 247042 (.le (GY @aZ @dM h1 h2)),rfl,rfl⟩
 intro X0 ρ w vs h1 hA h2 h3 h4;refine(UC L n ps t hs hl hc hps hpl ht X0 ρ w vs h1 hA h2 h3 h4).mono ?_;rintro e w' ⟨v,h',r,ρ',ar,q1,q2,q3⟩;exact⟨v,h',r,ρ',ar,q1,hm q2,q3⟩
open Eng
set_option maxRecDepth 10000
theorem DB:∀a b:Bs,Op.bytesLess a b=decide (Lib.compareBytes a b = -1)
 | [],[]=>rfl
 | [],_::_=>rfl
 | _::_,[]=>rfl
 | x::r,y::t=>by
  have ih:=DB r t;rw[Op.bytesLess,Lib.compareBytes,ih];by_cases h1:x<y
  ·simp[h1]
  ·by_cases h2:y<x
   ·have:¬x=y:=λe=>by subst e;exact h1 h2
    simp[h1,h2,this]
   ·have:x=y:=by
     simp only[adF]at h1 h2;exact UInt8.toNat.inj acN
    simp[this]
theorem qT {s:Bs} {n:Nat}:∀{k:Nat} {l:List Rw},rowsP s n k=.ok l->∀j,j<k->iw s n j=.ok (l.getD j dx)
 | 0,l,_,j,hj=>by omega
 | k+1,l,h,j,hj=>by
  unfold rowsP at h
  cases h1:rowsP s n k with
  | error e=>rw[h1]at h;cases h
  | ok l'=>
   have hl:=pn h1;rw[h1]at h
   cases h2:iw s n k with
   | error e=>rw[h2]at h;cases h
   | ok r=>
    rw[h2]at h;cases h;rcases aec.1 hj with hjk | rfl
    ·rw[qT h1 j hjk,acO,acO,List.getElem?_append_left acN]
    ·rw[h2,acO,List.getElem?_append_right acN,hl,aeA];rfl
theorem uB {s:Bs} {n j:Nat} {r:Rw} (h:iw s n j=.ok r):¬kE s j/\r.1=Sh.bC (gI s j)/\r.2.1<=1099511627776:=by
 unfold iw at h;split at h
 ·cases h
 ·rename_i hb;split at h
  ·cases h
  ·split at h
   ·cases h
   ·cases h;exact⟨hb,rfl,by simp only;omega⟩
theorem EI:∀{l:List Bs},(∀i,i+1<l.length->Lib.compareBytes (l.getD i []) (l.getD (i+1) [])<0)->eP l
 | [],_=>.nil
 | [x],_=>aee _ _
 | x::y::r,h=>by
  have ih:=EI (l:=y::r) (λi hi=>by simpa using h (i+1) (by simpa using hi));have h0:Lib.compareBytes x y<0:=by simpa using h 0 (by simp)
  refine adp.2 ⟨λz hz=>?_,ih⟩;rcases adg.1 hz with rfl | hz;exact h0
  ·have:=(adp.1 ih).1 z hz;exact A4 h0 acN
theorem DL (l:List Rw) (i:Nat):(l.map (·.1)).getD i []=(l.getD i dx).1:=by
 rw[acO,acO,List.getElem?_map];cases l[i]?<;>rfl
theorem Vh {s:Bs} {x:List Rw×Bs} (h:dr s=.ok x):x.1.length<=1000/\eP (x.1.map (·.1))/\∀r∈x.1,bJ r.1=true:=by
 unfold dr at h;simp only at h;split at h
 ·cases h
 rename_i h0;split at h
 ·cases h
 split at h
 ·cases h
 split at h
 ·cases h
 rename_i hn;split at h
 ·cases h
 rename_i hlen;split at h
 ·cases h
 split at h
 ·cases h
 rename_i l hl;split at h
 ·cases h
 cases h;have hll:=pn hl;have hraw:∀j,j<bG s 256->(gI s j).length=20:=λj hj=>eQ acN;refine⟨by simp only;omega,EI (λi hi=>?_),λr hr=>?_⟩
 ·simp only[ac7]at hi;rw[DL,DL];obtain⟨_,e1,_⟩:=uB (qT hl i acN);obtain⟨b2,e2,_⟩:=uB (qT hl (i+1) acN);rw[e1,e2]
  have h1:Op.bytesLess (gI s i) (gI s (i+1))=true:=by
   have:bf s (1012+20*(i+1)) 20=gI s i:=by unfold gI;rw[show 1012+20*(i+1)=1032+20*i by omega]
   cases hb:Op.bytesLess (gI s i) (gI s (i+1))with
   | true=>rfl
   | false=>exact absurd (.inl ⟨acN,by rw[this];exact hb⟩) b2
  rw[DB,decide_eq_true_eq]at h1;exact CV _ _ acN (by rw[hraw i acN,hraw (i+1) acN])
 ·obtain⟨j,hj,rfl⟩:=afg.1 hr;obtain⟨_,e1,_⟩:=uB (qT hl j (by simp only at hj;omega));simp only at hj e1;rw[acO,List.getElem?_eq_getElem hj]at e1;simp only[ad0]at e1;rw[e1];exact O2 (hraw j acN)
theorem EH {L:List Fi} {U:List Bs}:∀{k:Nat} {ps:List aO},packsP L U k=.ok ps->eZ ps
 | 0,ps,h=>by
  unfold packsP at h;cases h
  intro p hp;simp at hp
 | k+1,ps,h=>by
  unfold packsP at h
  cases h1:packsP L U k with
  | error e=>rw[h1]at h;cases h
  | ok l'=>
   have ih:=EH h1;rw[h1]at h
   cases h2:stepP L (U.getD k [])with
   | error e=>rw[h2]at h;cases h
   | ok r=>
    rw[h2]at h
    cases r with
    | none=>cases h;exact ih
    | some r=>
     cases h;intro p hp;rcases adq.1 hp with hp | hp;exact ih p hp
     ·rw[ac8]at hp;subst hp;unfold stepP at h2;split at h2
      ·cases h2
      ·split at h2
       ·cases h2
       ·rename_i x hx;split at h2
        ·cases h2
        ·split at h2
         ·cases h2
         ·split at h2
          ·cases h2
          ·split at h2
           ·cases h2
           ·cases h2;exact Vh hx
theorem Eh {L:List Fi} {ps:List aO} (h:jL L=.ok ps):eZ ps/\ps.length<=L.length:=by
 have h1:=uj h;have h2:=mF eW L;exact⟨EH h,acN⟩
theorem Un {L:List Fi} {e:Int} (h:jL L=.error e):e≠0:=by
 unfold jL at h;generalize (bU eW L).length=k at h
 induction k with
 | zero=>unfold packsP at h;cases h
 | succ k ih=>
  unfold packsP at h
  cases h1:packsP L (bU eW L) k with
  | error e'=>
   rw[h1]at h;cases h
   exact ih h1
  | ok l'=>
   rw[h1]at h
   cases h2:stepP L ((bU eW L).getD k [])with
   | ok r=>
    rw[h2]at h
    cases r<;>cases h
   | error e'=>
    rw[h2]at h;cases h;unfold stepP at h2;split at h2
    ·cases h2
    ·split at h2
     ·rename_i hx;cases h2;exact yi hx
     ·split at h2
      ·cases h2;decide
      ·split at h2
       ·rename_i hc;cases h2;exact hc
       ·split at h2
        ·cases h2;decide
        ·split at h2
         ·cases h2;decide
         ·cases h2
theorem Fu (c:UInt8):∀n,Lib.repeatL [c] n=List.replicate n c
 | 0=>rfl
 | n+1=>by
  rw[Lib.repeatL,Fu c n,ad3];rfl
theorem X1 (n:Nat) (hn:n<=1000):ao Tryz.prog 59 [.str [48],.int .i64 n] (.str (List.replicate n 48)):=by
 rw[<-Fu];exact y8 rfl rfl (λw=>Tryz.strings_Repeat ⟨#[48]⟩ n w acN (by show 1*n<=_;omega))
def nJ (t:Bs) (l:List Bs):Bs×Int:=
 if t.length<4\/bJ (t++List.replicate (40-t.length) 48)=false then([],4)
 else match l with
  | []=>([],7)
  | [x]=>(x,0)
  | _=>([],8)
theorem UX (L:List Fi) (n:Nat) (ps:List aO) (t:Bs) (hs:eO L) (hl:L.length<=100) (hc:∀f∈L,f.1.length<=200) (hps:eZ ps) (hpl:ps.length<=100) (ht:t.length<=140737488351232) :
    ao Tryz.prog 21 [jd L n ps,.str t] (.af [.str (nJ t (fw t L ps)).1,.int .i64 (nJ t (fw t L ps)).2]):=by
 refine Cod.UY (λE R hN hR=>?_);have hrp:=X1 (40-t.length) acN;have hns:=x7 L n ps t hs hl hc hps hpl acN;have hmx:max ((40:Int)-(t.length:Int)) 0=((40-t.length:Nat):Int):=acN;have hw:=yW (t++List.replicate (40-t.length) 48) (by rw[acQ,adh];omega);have fin:∀{h ar},ar=[AV.undef,AV.undef]->∀(x:Bs) (e:Int),nJ t (fw t L ps)=(x,e)->R h (.af [.str x,.int .i64 e]) ar:=λha x e he=>by subst ha;exact hR.ro ⟨rfl,by rw[he]⟩
 have hnl:=xU t hl hps hpl;generalize fw t L ps=l at *
 refine ab hmx ?_;refine ah hrp rfl rfl ?_;obtain⟨w,hw0⟩:∃w,w=t++List.replicate (40-t.length) 48:=⟨_,rfl⟩;unfold nJ at fin;rw[<-hw0]at hw fin;by_cases h4:t.length<4
 ·simp(disch:=first | omega | (simp only[Lx];omega))only[go_sem,simprocAttr,h4,<-hw0]
  (repeat(first | refine cC ?_ | refine cz ?_ | refine cB ?_)<;>simp(disch:=first | omega | (simp only[Lx];omega))only[go_sem,simprocAttr,h4,<-hw0])
  exact fin rfl [] 4 (by rw[if_pos (.inl h4)])
 ·simp(disch:=first | omega | (simp only[Lx];omega))only[go_sem,simprocAttr,h4,<-hw0]
  (repeat(first | refine cC ?_ | refine cz ?_ | refine cB ?_)<;>simp(disch:=first | omega | (simp only[Lx];omega))only[go_sem,simprocAttr,h4,<-hw0])
  refine eI (gq vV hw vV rfl rfl ?_)
  cases hid:bJ w with
  | false=>
   refine wW ?_;refine gG ?_
   exact fin rfl [] 4 (by rw[if_pos (.inr hid)])
  | true=>
   rw[if_neg (by rw[hid];simp;omega)]at fin;refine wW ?_;refine gG ?_;refine ah hns rfl rfl ?_;rcases l with _ | ⟨x,_ | ⟨y,r⟩⟩
   ·simp(disch:=first | omega | (simp only[Lx];omega))only[go_sem,simprocAttr,aZ,adn]
    exact fin rfl [] 7 rfl
   ·have h0:nth (au [x]) 0=.str x:=rfl;simp(disch:=first | omega | (simp only[Lx];omega))only[go_sem,simprocAttr,aZ,adb,adn,h0]
    exact fin rfl x 0 rfl
   ·have e1:¬(((x::y::r).length:Nat):Int)=0:=by simp;omega
    have e2:¬(((x::y::r).length:Nat):Int)=1:=by simp;omega
    have e3:(x::y::r).length<=9223372036854775807:=acN;have hz:=aZ (x::y::r);refine bp hz e1 e2 ?_;exact fin rfl [] 8 rfl
end Go.Proofs.YtoalcafkffmiiaaGreatDoor.Ls
namespace Go.Proofs.YtoalcafkffmiiaaGreatDoor.Ls
open Eng
set_option maxRecDepth 10000
theorem GI (t:Bs):∀{L:List Fi},fi L->(∀f∈L,Lib.compareBytes t f.1<=0)->L.takeWhile (λf=>aJ t f.1)=L.filter (λf=>aJ t f.1)
 | [],_,_=>rfl
 | x::r,hs,hg=>by
  have hs':=adp.1 hs;rw[aeC];by_cases h:aJ t x.1=true
  ·rw[if_pos h,adw (p:=λf:Fi=>aJ t f.1) h,GI t hs'.2 (λf hf=>hg f (ada _ hf))]
  ·rw[if_neg h,adj (p:=λf:Fi=>aJ t f.1) h,eq_comm,ae3];intro y hy hb;have h1:=hs'.1 y hy;exact h (vH (hg x (ac6 ..)) (by unfold cv at h1;omega) hb)
theorem GQ (t:Bs):∀{L:List Fi},fi L->bU t L=(L.filter (λf=>aJ t f.1)).map (·.1)
 | [],_=>rfl
 | x::r,hs=>by
  have hs':=adp.1 hs;by_cases h:Lib.compareBytes x.1 t<0
  ·have ih:=GQ t hs'.2
   have hno:¬aJ t x.1=true:=λhb=>by
    have h1:=vJ hb;have:=gr x.1 t;omega
   rw[adj (p:=λf:Fi=>aJ t f.1) hno,<-ih];unfold bU;rw[show posF t (x::r)=posF t r+1 by simp only[posF];rw[if_pos h],adP]
  ·have hge:∀f∈x::r,Lib.compareBytes t f.1<=0:=λf hf=>by
    have h0:Lib.compareBytes t x.1<=0:=by have:=gr x.1 t;omega
    rcases adg.1 hf with rfl | hf;exact h0
    ·have h1:=hs'.1 f hf;exact l8 _ _ _ h0 (by unfold cv at h1;omega)
   unfold bU;rw[show posF t (x::r)=0 by simp only[posF];rw[if_neg h],ado,GI t hs hge]
theorem DM (t:Bs) {l:List Rw} (h:eP (l.map (·.1))):jb t l=(l.map (·.1)).filter (aJ t):=by
 unfold jb;rw[GQ t (xz h),List.filter_map,List.filter_map,adS];rfl
theorem SG {ps:List Bs} {x:Bs} (h:x∈dH ps):bJ x=true:=by
 obtain⟨p,hp,rfl⟩:=adN.1 h;have:=(aeM.1 hp).2;unfold iZ at this;rw[acX]at this;exact this.1
theorem TE {t:Bs} {L:List Fi} {ps:List aO} (h:eZ ps) {x:Bs} (hx:x∈fw t L ps):bJ x=true:=by
 unfold fw at hx;rw[Ep,adq]at hx;rcases hx with hx | hx;exact SG ((aeM.1 hx).1)
 ·unfold dw at hx;obtain⟨p,hp,hx⟩:=afx.1 hx;rw[DM t (h p hp).2.1]at hx;obtain⟨r,hr,rfl⟩:=adN.1 ((aeM.1 hx).1);exact(h p hp).2.2 r hr
section
variable {l:List Bs} (hl:∀x∈l,bJ x=true) (hs:eP l)
include hl
include hs
end
open Eng
set_option maxRecDepth 10000
theorem uA (t:Bs) (ht:t.length<=8):ao Tryz.prog 95 [.str t] (.int .u64 (bW t:Nat)):=by
 refine Cod.FA (λE R hN hR=>?_);refine wW ?_;refine aD hN (λk:Nat=>⟨[(0,.str t),(3,.int .u64 (bW (t.take k):Nat)),(4,.int .i64 k)],[]⟩) (λk=>k<=t.length) (λk=>t.length-k) 0 (.le (by simp(disch:=omega)only[go_sem,simprocAttr];simp[bW])) acN ?_;rintro k R1 hk hR1;by_cases hlt:k<t.length
 ·have hct:=vK t hlt;have hxl:bW (t.take k)<72057594037927936:=ac3 (sa t k hk) (acV (n:=256) (by decide) (by omega:k<=7));have hbl:=(t.getD k 0).toNat_lt;generalize bW (t.take k)=x at *
  refine wW ?_;exact hR1 (k+1) _ acN acN (.le (cn hct))
 ·obtain rfl:k=t.length:=acN;rw[acP (acT _)];refine wW ?_;exact hR.ro ⟨rfl,rfl⟩
theorem qa {s:Bs} {o n a m:Nat} (h:a+m<=n):bf (bf s o n) a m=bf s (o+a) m:=by
 unfold bf;rw[afJ,ad6,List.take_take,adk acN]
def eR (s:Bs) (k:Nat):List AV:=(List.range k).map λi=>.int .u64 (bG s (i+1):Nat)
theorem sT (s:Bs) (k:Nat):(eR s k).length=k:=by simp[eR]
theorem Nc (s:Bs) (k:Nat):eR s k++[.int .u64 (bG s (k+1):Nat)]=eR s (k+1):=by simp[eR,ael]
theorem oH {s:Bs} {k:Nat}:(eR s k).all aL=true:=by simp[eR,aL,cellsOf,isCell]
theorem Nb (s:Bs) (k:Nat):aB (eR s k) 0 k=eR s k:=by
 unfold aB;rw[ado,acP (by rw[sT];omega)]
theorem tT {s:Bs} {k i:Nat} (h:i<k):nth (eR s k) i=.int .u64 (bG s (i+1):Nat):=by
 simp[nth,eR,h]
def parseD:Except Int (List Rw×Bs)->AV
 | .error e=>.af [.al,.str [],.int .i64 e]
 | .ok p=>.af [.ro 3 (cE p.1),.str p.2,.int .i64 0]
set_option maxHeartbeats 4000000 in
theorem We (s:Bs) (hs:s.length<=100000):ao Tryz.prog 54 [.str s] (parseD (dr s)):=by
 refine Cod.Wf (λE R hN hR=>?_);have bad:∀{h} (e:Int),dr s=.error e->R h (.af [.al,.str [],.int .i64 e]) [.undef]:=λe he=>hR.ro ⟨rfl,by rw[he];rfl⟩;by_cases h0:s.length<1072
 ·refine wW ?_;exact bad 6 (by unfold dr;rw[if_pos h0])
 have hlit:bytesOf [AV.int .u8 255,AV.int .u8 116,AV.int .u8 79,AV.int .u8 99,AV.int .u8 0,AV.int .u8 0,AV.int .u8 0,AV.int .u8 2]=[255,116,79,99,0,0,0,2]:=rfl;have hall:jC [AV.int .u8 255,AV.int .u8 116,AV.int .u8 79,AV.int .u8 99,AV.int .u8 0,AV.int .u8 0,AV.int .u8 0,AV.int .u8 2]=true:=rfl;by_cases h1:s.take 8=[255,116,79,99,0,0,0,2];rotate_left
 ·refine bp hlit hall h1 ?_;exact bad 3 (by unfold dr;rw[if_neg h0,if_pos h1])
 refine bp h1 hlit hall ?_;refine aD hN (λk:Nat=>⟨[(0,.str s),(5,.sl 273027 0 k),(6,.int .i64 k)],[(273027,.arr 1 (eR s k))]⟩) (λk=>k<=256/\∀i,i<k->bG s i<=bG s (i+1)) (λk=>256-k) 0 (.le (by simp(disch:=omega)only[go_sem,simprocAttr,show eR s 0=[]from rfl])) ⟨acN,λi h=>by omega⟩ ?_;rintro k R1 ⟨hk,hmono⟩ hR1;by_cases hlt:k<256
 ·have e1:((8:Int)+4*(k:Int)).toNat=8+4*k:=acN;have e2:((12:Int)+4*(k:Int)).toNat=12+4*k:=acN;have e3:12+4*k-(8+4*k)=4:=acN;have hb:=uA (bf s (8+4*k) 4) (by rw[eQ acN];omega)
  have hfe:bW (bf s (8+4*k) 4)=bG s (k+1):=by
   unfold bG;rw[if_neg acN,show 4+4*(k+1)=8+4*k by omega]
  rw[hfe]at hb;have hl:=me s (k+1);have hl2:=me s k;have hst:=Nc s k;have hfl:=sT s k;have hsb:=Nb s k;refine bV e1 e2 e3 @dk ?_;refine ah hb rfl rfl ?_;refine wW ?_;have hm1:((k:Int)-1).toNat=k-1:=acN
  have nx:bG s k<=bG s (k+1)->∀st',Wk st' ⟨[(0,.str s),(5,.sl 273027 0 (k+1)),(6,.int .i64 ((k+1:Nat):Int))],[(273027,.arr 1 (eR s (k+1)))]⟩->R1.ap st':=λhm st' hw=>
   hR1 (k+1) _ acN ⟨acN,λi h=>by
    rcases aec.1 h with h | rfl;exact hmono i h
    ·exact hm⟩ hw
  by_cases hk0:0<k
  ·have hi0:(0:Int)<(k:Int):=acN;have hnt:nth (eR s k) (k-1)=.int .u64 (bG s k:Nat):=by rw[tT acN,show k-1+1=k by omega]
   by_cases hm:bG s k<=bG s (k+1)
   ·have hi:¬((bG s (k+1):Nat):Int)<(bG s k:Nat):=acN;simp(disch:=omega)only[go_sem,simprocAttr,hi0,hm1,hnt,hi,hfl,hsb,hst,oH]
    (repeat(first | refine cC ?_ | refine cz ?_ | refine cB ?_)<;>simp(disch:=omega)only[go_sem,simprocAttr,hi0,hm1,hnt,hi,hfl,hsb,hst,oH])
    exact nx hm _ (.le vV)
   ·have hi:((bG s (k+1):Nat):Int)<(bG s k:Nat):=acN;simp(disch:=omega)only[go_sem,simprocAttr,hi0,hm1,hnt,hi,hfl,hsb,hst,oH]
    (repeat(first | refine cC ?_ | refine cz ?_ | refine cB ?_)<;>simp(disch:=omega)only[go_sem,simprocAttr,hi0,hm1,hnt,hi,hfl,hsb,hst,oH])
    exact bad 3 (by unfold dr;rw[if_neg h0,if_neg (λh=>h h1),if_pos (λh=>hm (h k hlt))])
  ·obtain rfl:k=0:=acN;have hm:bG s 0<=bG s (0+1):=by unfold bG;rw[if_pos rfl];exact ac9 _
   refine bV hfl hsb hst @oH ?_;refine kJ hfl hsb hst @oH ?_;exact nx hm _ (.le vV)
 ·obtain rfl:k=256:=acN;have hok:wI s:=λi h=>hmono i h;have hl:=me s 256;have hfl:=sT s 256;have hg:nth (eR s 256) 255=.int .u64 (bG s 256:Nat):=tT acN;obtain⟨n,hn⟩:∃n,n=bG s 256:=⟨_,rfl⟩;rw[<-hn]at hl hg
  have hb0:dr s=(if 1000<n then .error 2
   else if s.length<1072+28*n then .error 6
   else if cc s n%8≠0 then .error 3
   else match rowsP s n n with
    | .error e=>.error e
    | .ok l=>if Sh.cY (s.take (s.length-20))≠s.drop (s.length-20)then .error 5 else .ok (l,Sh.bC (bf s (s.length-40) 20))):=by
   unfold dr;rw[if_neg h0,if_neg (λh=>h h1),if_neg (λh=>h hok),<-hn];rfl
  refine aE hfl hg ?_;by_cases g1:1000<n
  ·have hi:(1000:Int)<(n:Int):=acN;refine ab hi ?_;exact bad 2 (by rw[hb0,if_pos g1])
  have hi:¬(1000:Int)<(n:Int):=acN;have hw:IntKind.i64.wrap (n:Int)=(n:Int):=eE acN;rw[if_neg g1]at hb0;refine bV hi hfl hg hw ?_;by_cases g2:s.length<1072+28*n
  ·have hi:(s.length:Int)<1072+28*(n:Int):=acN;refine ab hi ?_;exact bad 6 (by rw[hb0,if_pos g2])
  have hi:¬(s.length:Int)<1072+28*(n:Int):=acN;rw[if_neg g2]at hb0;have efn:(s.length:Int)-1072-28*(n:Int)=((cc s n:Nat):Int):=by unfold cc;omega
  have etm:((cc s n:Nat):Int).tmod 8=((cc s n%8:Nat):Int):=by rw[gh acN];omega
  refine bp hi efn etm ?_;by_cases g3:cc s n%8=0;rotate_left
  ·have hi:¬((cc s n%8:Nat):Int)=0:=acN;refine ab hi ?_;exact bad 3 (by rw[hb0,if_pos g3])
  have hi:((cc s n%8:Nat):Int)=0:=acN;rw[if_neg (λh=>h g3)]at hb0;have a1:((1032:Int)+20*(n:Int)).toNat=1032+20*n:=acN;have a2:((1032:Int)+24*(n:Int)).toNat=1032+24*n:=acN;have a3:((1032:Int)+28*(n:Int)).toNat=1032+28*n:=acN;have a4:1032+20*n-1032=20*n:=acN;have a5:1032+24*n-(1032+20*n)=4*n:=acN;have a6:1032+28*n-(1032+24*n)=4*n:=acN;have a7:((s.length:Int)-40).toNat-(1032+28*n)=cc s n:=by unfold cc;omega
  simp(disch:=omega)only[go_sem,simprocAttr,hi,a1,a2,a3,a4,a5,a6,a7,dk];have hcut:∀o m a,o+m<=s.length->a+20<=m->bf (bf s o m) a 20=bf s (o+a) 20:=λo m a _ h=>qa h;obtain⟨Nm,hNm⟩:∃x,x=bf s 1032 (20*n):=⟨_,rfl⟩;obtain⟨Cr,hCr⟩:∃x,x=bf s (1032+20*n) (4*n):=⟨_,rfl⟩;obtain⟨Nr,hNr⟩:∃x,x=bf s (1032+24*n) (4*n):=⟨_,rfl⟩;obtain⟨F,hF⟩:∃F,F=bf s (1032+28*n) (cc s n):=⟨_,rfl⟩;have lNm:Nm.length=20*n:=by rw[hNm];exact eQ acN
  have lCr:Cr.length=4*n:=by rw[hCr];exact eQ acN
  have lNr:Nr.length=4*n:=by rw[hNr];exact eQ acN
  have efl:F.length=cc s n:=by rw[hF];exact eQ (by unfold cc;omega)
  rw[<-hNm,<-hCr,<-hNr,<-hF];have hn1:n<=1000:=acN
  refine aD hN (λp:Nat×List Rw=>⟨[(0,.str s),(5,.sl 273027 0 256),(8,.int .i64 n),(9,.str Nm),(10,.str Cr),(11,.str Nr),(12,.str F),(13,.sl 273107 0 p.2.length),(14,.int .i64 p.1)],[(273107,.arr 3 (cE p.2)),(273027,.arr 1 (eR s 256))]⟩)
   (λp=>p.1<=n/\rowsP s n p.1=.ok p.2) (λp=>n-p.1) (0,[]) (.le (cn @FG)) ⟨acN,rfl⟩ ?_
  rintro⟨k,l⟩ R2 ⟨hk2,hrows⟩ hR2;simp only at hk2 hrows;have hll:=pn hrows;by_cases hlt2:k<n
  ·have hrl:(gI s k).length=20:=eQ acN;have c1:((20:Int)*(k:Int)).toNat=20*k:=acN;have c2:((20:Int)*(k:Int)+20).toNat-20*k=20:=acN;have hrw:bf Nm (20*k) 20=gI s k:=by rw[hNm,qa acN];rfl
   obtain⟨raw,hraw⟩:∃raw,raw=gI s k:=⟨_,rfl⟩;have hch:(raw.getD 0 0).toNat=ou s k:=by rw[hraw];rfl
   rw[<-hraw]at hrl hrw;have hcb:=(raw.getD 0 0).toNat_lt;obtain⟨c,hc⟩:∃c,c=ou s k:=⟨_,rfl⟩;rw[hch,<-hc]at hcb;rw[<-hc]at hch
   have badr:∀{h} (e:Int),iw s n k=.error e->R h (.af [.al,.str [],.int .i64 e]) [.undef]:=λe he=>bad e (by
    have h1:rowsP s n (k+1)=.error e:=by unfold rowsP;rw[hrows];simp only[he]
    rw[hb0,yP (by omega:k+1<=n) h1])
   have bad3:∀{h},kE s k->R h (.af [.al,.str [],.int .i64 3]) [.undef]:=λh=>badr 3 (by unfold iw;rw[if_pos h]);have c3:((20:Int)*(k:Int)-20).toNat=20*k-20:=acN
   have c4:0<k->bf Nm (20*k-20) (20*k-(20*k-20))=bf s (1012+20*k) 20:=λh=>by
    rw[show 20*k-(20*k-20)=20 by omega,hNm,qa acN,show 1032+(20*k-20)=1012+20*k by omega]
   obtain⟨prev,hprev⟩:∃prev,prev=bf s (1012+20*k) 20:=⟨_,rfl⟩;rw[<-hprev]at c4;obtain⟨fc,hfc⟩:∃fc,fc=bG s c:=⟨_,rfl⟩;obtain⟨fd,hfd⟩:∃fd,fd=bG s (c+1):=⟨_,rfl⟩;have hfcl:=me s c;have hfdl:=me s (c+1);have hf1:nth (eR s 256) c=.int .u64 (fd:Nat):=by rw[tT acN,<-hfd]
   have hf0:0<c->nth (eR s 256) (c-1)=.int .u64 (fc:Nat):=λh=>by rw[tT acN,show c-1+1=c by omega,<-hfc]
   have hfz:c=0->fc=0:=λh=>by rw[hfc,h];unfold bG;rw[if_pos rfl]
   rw[<-hfc]at hfcl;rw[<-hfd]at hfdl
   have hbr:kE s k↔(0<k/\Op.bytesLess prev raw=false)\/k<fc\/fd<=k:=by
    unfold kE;rw[<-hc,<-hraw,<-hprev,<-hfc,<-hfd]
   have cw:IntKind.i64.wrap (c:Int)=(c:Int):=eE acN;have kw:IntKind.u64.wrap (k:Int)=(k:Int):=wrap_u64 acN;have cm:((c:Int)-1).toNat=c-1:=acN;refine bV c1 c2 @dk hrw ?_;refine cf (y:=Cod.Wb) hN (λ_:Unit=>⟨[(0,.str s),(5,.sl 273027 0 256),(8,.int .i64 n),(9,.str Nm),(10,.str Cr),(11,.str Nr),(12,.str F),(13,.sl 273107 0 l.length),(14,.int .i64 k),(15,.str raw)],[(273107,.arr 3 (cE l)),(273027,.arr 1 (eR s 256))]⟩) (λ_=>¬(0<k/\Op.bytesLess prev raw=false)) (λR3 hR3=>?_) (λ_ hA=>?_)
   ·by_cases hk0:0<k
    ·have hi:(0:Int)<(k:Int):=acN;have c4:=c4 hk0
     cases hA2:Op.bytesLess prev raw with
     | false=>
      simp(disch:=omega)only[go_sem,simprocAttr,hi,c1,c3,dk,c4,hA2,adA,adJ]
      (repeat(first | refine cC ?_ | refine cz ?_ | refine cB ?_)<;>simp(disch:=omega)only[go_sem,simprocAttr,hi,c1,c3,dk,c4,hA2,adA,adJ])
      exact bad3 (hbr.2 (.inl ⟨hk0,hA2⟩))
     | true=>
      simp(disch:=omega)only[go_sem,simprocAttr,hi,c1,c3,dk,c4,hA2,adA,adJ]
      (repeat(first | refine cC ?_ | refine cz ?_ | refine cB ?_)<;>simp(disch:=omega)only[go_sem,simprocAttr,hi,c1,c3,dk,c4,hA2,adA,adJ])
      exact hR3 () _ (λh=>by rw[hA2]at h;cases h.2) (.le vV)
    ·have hi:¬(0:Int)<(k:Int):=acN;refine ab hi ?_;refine aV hi ?_;exact hR3 () _ (λh=>hk0 h.1) (.le vV)
   have hfu:=sT s 256;refine aE hch cw ?_;refine cf (y:=Cod.Wc) hN (λ_:Unit=>⟨[(0,.str s),(5,.sl 273027 0 256),(8,.int .i64 n),(9,.str Nm),(10,.str Cr),(11,.str Nr),(12,.str F),(13,.sl 273107 0 l.length),(14,.int .i64 k),(15,.str raw)],[(273107,.arr 3 (cE l)),(273027,.arr 1 (eR s 256))]⟩) (λ_=>¬kE s k) (λR3 hR3=>?_) (λ_ hnb=>?_)
   ·by_cases hC:fd<=k
    ·have hiC:(fd:Int)<=(k:Int):=acN;refine bV kw hfu hf1 hiC ?_;refine kJ kw hfu hf1 hiC ?_;exact bad3 (hbr.2 (.inr (.inr hC)))
    have hiC:¬(fd:Int)<=(k:Int):=acN;by_cases hc0:0<c
    ·have hi:(0:Int)<(c:Int):=acN;have hf0:=hf0 hc0;by_cases hB:k<fc
     ·have hiB:(k:Int)<(fc:Int):=acN;simp(disch:=omega)only[go_sem,simprocAttr,kw,hfu,hf1,hiC,hi,cm,hf0,hiB]
      (repeat(first | refine cC ?_ | refine cz ?_ | refine cB ?_)<;>simp(disch:=omega)only[go_sem,simprocAttr,kw,hfu,hf1,hiC,hi,cm,hf0,hiB])
      exact bad3 (hbr.2 (.inr (.inl hB)))
     ·have hiB:¬(k:Int)<(fc:Int):=acN;simp(disch:=omega)only[go_sem,simprocAttr,kw,hfu,hf1,hiC,hi,cm,hf0,hiB]
      (repeat(first | refine cC ?_ | refine cz ?_ | refine cB ?_)<;>simp(disch:=omega)only[go_sem,simprocAttr,kw,hfu,hf1,hiC,hi,cm,hf0,hiB])
      exact hR3 () _ (λh=>by
       rcases hbr.1 h with h | h | h;exact hA h;exact hB h
       ·exact hC h) (.le vV)
    ·have hi:¬(0:Int)<(c:Int):=acN;have hz:=hfz acN;refine cN kw hfu hf1 hiC hi ?_;refine oP kw hfu hf1 hiC hi ?_
     exact hR3 () _ (λh=>by
      rcases hbr.1 h with h | h | h;exact hA h;omega
      ·exact hC h) (.le vV)
   have d1:((4:Int)*(k:Int)).toNat=4*k:=acN;have d2:((4:Int)*(k:Int)+4).toNat-4*k=4:=acN;have hNk:bf Nr (4*k) 4=bf s (1032+24*n+4*k) 4:=by rw[hNr,qa acN]
   have hCk:bf Cr (4*k) 4=bf s (1032+20*n+4*k) 4:=by rw[hCr,qa acN]
   have hbn:=uA (bf s (1032+24*n+4*k) 4) (by rw[eQ acN];omega);have hbc:=uA (bf s (1032+20*n+4*k) 4) (by rw[eQ acN];omega);have hnl:eU s n k<4294967296:=l5 (n:=4) (by rw[eQ acN];omega);have hcl:bW (bf s (1032+20*n+4*k) 4)<4294967296:=l5 (n:=4) (by rw[eQ acN];omega);have hpl:ir s n k=if 2147483648<=eU s n k then bW (bf F (8*(eU s n k-2147483648)) 8)else eU s n k:=by unfold ir;rw[<-hF]
   have hrp:iw s n k=(if 2147483648<=eU s n k/\cc s n/8<=eU s n k-2147483648 then .error 3
    else if 1099511627776<ir s n k then .error 2
    else .ok (Sh.bC raw,ir s n k,bW (bf s (1032+20*n+4*k) 4))):=by unfold iw;rw[if_neg hnb,hraw]
   rw[show bW (bf s (1032+24*n+4*k) 4)=eU s n k from rfl]at hbn;obtain⟨q,hq⟩:∃q,q=eU s n k:=⟨_,rfl⟩;obtain⟨cr,hcr⟩:∃cr,cr=bW (bf s (1032+20*n+4*k) 4):=⟨_,rfl⟩;rw[<-hq]at hnl hpl hrp hbn;rw[<-hcr]at hcl hrp hbc
   have hpb:ir s n k<18446744073709551616:=by
    rw[hpl];split;exact ac3 (l5 (n:=8) (by unfold bf;rw[acS];exact Nat.min_le_left ..)) (by decide);omega
   refine bV d1 d2 @dk hNk ?_;refine ah hbn rfl rfl ?_;refine wW ?_;refine cf (y:=Cod.Wd) hN (λ_:Unit=>⟨[(0,.str s),(5,.sl 273027 0 256),(8,.int .i64 n),(9,.str Nm),(10,.str Cr),(11,.str Nr),(12,.str F),(13,.sl 273107 0 l.length),(14,.int .i64 k),(15,.str raw),(17,.int .u64 (ir s n k:Nat))],[(273107,.arr 3 (cE l)),(273027,.arr 1 (eR s 256))]⟩) (λ_=>¬(2147483648<=q/\cc s n/8<=q-2147483648)) (λR3 hR3=>?_) (λ_ hng=>?_)
   ·by_cases hf:2147483648<=q
    ·have hif:(2147483648:Int)<=(q:Int):=acN;rw[if_pos hf]at hpl;obtain⟨j,hj⟩:∃j,j=q-2147483648:=⟨_,rfl⟩;have e1:((q:Int)-2147483648)=(j:Int):=acN;have e2:IntKind.i64.wrap (j:Int)=(j:Int):=eE acN;have e3:((cc s n:Nat):Int).tdiv 8=((cc s n/8:Nat):Int):=by rw[la acN];omega
     refine bp hif e1 e2 ?_;by_cases hg:cc s n/8<=j
     ·have hig:((cc s n/8:Nat):Int)<=(j:Int):=acN;refine bp efl e3 hig ?_;exact badr 3 (by rw[hrp,if_pos ⟨hf,acN⟩])
     ·have hig:¬((cc s n/8:Nat):Int)<=(j:Int):=acN;have h8:=uA (bf F (8*j) 8) (by rw[eQ acN];omega);have d5:((8:Int)*(j:Int)).toNat=8*j:=acN;have d6:((8:Int)*(j:Int)+8).toNat-8*j=8:=acN;refine lg efl e3 hig d5 d6 @dk ?_;refine ah h8 rfl rfl ?_;rw[<-hj]at hpl;rw[<-hpl];refine wW ?_;exact hR3 () _ (λh=>hg acN) (.le vV)
    ·have hif:¬(2147483648:Int)<=(q:Int):=acN;rw[if_neg hf]at hpl;refine ab hif ?_;exact hR3 () _ (λh=>hf h.1) (.le (by rw[hpl];exact vV))
   ·rw[if_neg hng]at hrp;obtain⟨pl,hpl2⟩:∃pl,pl=ir s n k:=⟨_,rfl⟩;rw[<-hpl2]at hrp;rw[<-hpl2];by_cases hbig:1099511627776<pl
    ·have hib:(1099511627776:Int)<(pl:Int):=acN;refine ab hib ?_;exact badr 2 (by rw[hrp,if_pos hbig])
    ·have hib:¬(1099511627776:Int)<(pl:Int):=acN;rw[if_neg hbig]at hrp;have hhex:=Sh.qS raw acN;have pw:IntKind.i64.wrap (pl:Int)=(pl:Int):=eE acN;have crw:IntKind.u32.wrap (cr:Int)=(cr:Int):=wrap_u32 acN;have hrs:=uC l;refine lg hib pw d1 d2 @dk hCk ?_;refine ah hhex rfl rfl ?_;refine wW ?_;refine ah hbc rfl rfl ?_;refine bp crw hrs @dL ?_;rw[FF];refine⟨⟨yO,acN⟩,hR2 (k+1,l++[(Sh.bC raw,pl,cr)]) _ (by simp only;omega) ⟨by simp only;omega,by simp only;unfold rowsP;rw[hrows];simp only[hrp]⟩ (.le (by rw[acQ,acW];exact vV))⟩
  ·obtain rfl:k=n:=acN;rw[hrows]at hb0;simp only at hb0;have m1:((s.length:Int)-20).toNat=s.length-20:=acN;have m2:((s.length:Int)-40).toNat=s.length-40:=acN;have m3:s.length-20-(s.length-40)=20:=acN;have hsum:=Sh.yQ (s.take (s.length-20)) (by rw[acS];omega);have hhx:=Sh.qS (bf s (s.length-40) 20) (by rw[eQ acN];omega);refine ab m1 ?_;refine ah hsum rfl rfl ?_;by_cases hsh:Sh.cY (s.take (s.length-20))=s.drop (s.length-20)
   ·have hb1:dr s=.ok (l,Sh.bC (bf s (s.length-40) 20)):=by rw[hb0,if_neg (λh=>h hsh)]
    rw[hb1]at hR;obtain⟨sm,hsm⟩:∃sm,sm=Sh.bC (bf s (s.length-40) 20):=⟨_,rfl⟩;rw[<-hsm]at hhx hR;refine cN hsh m1 m2 m3 @dk ?_;refine ah hhx rfl rfl ?_;refine wW ?_;exact hR.wk (h':=[]) (r':=.af [.ro 3 (cE l),.str sm,.int .i64 0]) (ar':=[.undef]) rfl (.bj 273107 (.le (mH @uC @dL @yO))) ⟨rfl,rfl⟩
   ·refine ab hsh ?_;exact bad 5 (by rw[hb0,if_pos hsh])
theorem Nj (t:Bs) (n:Nat) (ht:t.length<=30000000000000000000) (hn:n<=100000):ao Tryz.prog 30 [.str t,.int .i64 n] (.str (t.take n)):=by
 refine Cod.Nk (λE R hN hR=>?_);by_cases h:n<t.length
 ·have hi:(n:Int)<(t.length:Int):=acN;refine ab hi ?_;exact hR.ro ⟨rfl,rfl⟩
 ·rw[acP acN]at hR;have hi:¬(n:Int)<(t.length:Int):=acN;refine ab hi ?_;exact hR.ro ⟨rfl,rfl⟩
theorem Nh (fs:List Fi) (n:Nat) (hl:fs.length*32<=140737488355328) (hn:n<=1000):Eng.Spec Tryz.prog 29 [] [.ro 2 (a8 fs),.int .i64 n] (λh r ar=>h=[(216012,.arr 2 (a8 (fs.take n)))]/\r=.sl 216012 0 (fs.take n).length/\ar=[.undef,.undef]):=by
 refine Cod.Ni (λE R hN hR=>?_);by_cases h:n<fs.length
 ·have hi:(n:Int)<(fs.length:Int):=acN;have htl:(fs.take n).length=n:=by rw[acS];omega
  rw[htl]at hR;refine bV @bX hi @Nn htl ?_;exact⟨⟨oJ,acN⟩,hR.wk (h':=[(216012,.arr 2 (a8 (fs.take n)))]) (r':=.sl 216012 0 n) (ar':=[.undef,.undef]) rfl (.le vV) ⟨rfl,rfl,rfl⟩⟩
 ·have hi:¬(n:Int)<(fs.length:Int):=acN;rw[acP acN]at hR;refine aE @bX hi ?_;exact⟨⟨oJ,acN⟩,hR.wk (h':=[(216012,.arr 2 (a8 fs))]) (r':=.sl 216012 0 fs.length) (ar':=[.undef,.undef]) rfl (.le vV) ⟨rfl,rfl,rfl⟩⟩
theorem Nq {A D:List Fi} {g x:Fi}:(a8 (A++g::D)).set A.length (.agg [.str x.1,.str x.2])=a8 (A++[x]++D):=by
 unfold a8;rw[adr,ae9 _ _ (by rw[ac7];exact acT _),ac7,aeA];simp[eS]
def jE (f:Fi):Fi:=(f.1,f.2.take 3000)
def mA (fs:List Fi) (n:Nat):List Fi:=(fs.take n).map jE
theorem ZA (fs:List Fi) (n:Nat) (hl:fs.length*32<=140737488355328) (hn:n<=1000) (hd:∀f∈fs,f.2.length<=140737488351232):Eng.Spec Tryz.prog 8 [] [.ro 2 (a8 fs),.int .i64 n] (λh r ar=>h=[(216012,.arr 2 (a8 (mA fs n)))]/\r=.sl 216012 0 (mA fs n).length/\ar=[.undef,.undef]):=by
 refine Cod.ZB (λE R hN hR=>?_);refine wW ?_;refine aI [] (Nh fs n hl hn) trivial (λ_=>rfl) ?_;rintro h' v ar ⟨rfl,rfl,rfl⟩;unfold mA at hR;have hdg:∀f∈fs.take n,f.2.length<=140737488351232:=λf hf=>hd f (aeu hf);have hgl:(fs.take n).length<=1000:=by rw[acS];omega
 obtain⟨G,hG⟩:∃G,G=fs.take n:=⟨_,rfl⟩;rw[<-hG]at hR hdg hgl;simp(disch:=first | omega | (simp only[Lx];omega))only[go_sem,simprocAttr,oJ,bX,wJ,<-hG]
 refine aD hN (λk:Nat=>⟨[(5,.sl 216012 0 G.length),(11,.int .i64 G.length),(12,.int .i64 k)],[(216012,.arr 2 (a8 ((G.take k).map jE++G.drop k)))]⟩) (λk=>k<=G.length) (λk=>G.length-k) 0 (.le (by simp(disch:=first | omega | (simp only[Lx];omega))only[go_sem,simprocAttr,adI,ado,ad8,ady])) (ac9 _) ?_
 rintro k R1 hk hR1;by_cases hlt:k<G.length
 ·have hL:((G.take k).map jE++G.drop k).length=G.length:=by rw[acQ,ac7,acS,acU];omega
  have hg:((G.take k).map jE++G.drop k).getD k aP=G.getD k aP:=by
   rw[acO,List.getElem?_append_right (by rw[ac7,acS];omega),ac7,acS,adk hk,aeA,List.getElem?_drop,adE,<-acO]
  have hm:=hdg _ (dT aP hlt);have hf:=Nj (G.getD k aP).2 3000 acN (by decide);rw[show((3000:Nat):Int)=3000 from rfl]at hf;refine bV @bX hL @iq hg ?_;refine ah hf rfl rfl ?_;refine bV @bX hL @iq hg ?_
  have hdr:G.drop k=G.getD k aP::G.drop (k+1):=by
   rw[acO,List.getElem?_eq_getElem hlt];exact adt hlt
  have hal:((G.take k).map jE).length=k:=by rw[ac7,acS];omega
  have hst:(a8 ((G.take k).map jE++G.drop k)).set k (.agg [.str (G.getD k aP).1,.str ((G.getD k aP).2.take 3000)])=a8 ((G.take k).map jE++[jE (G.getD k aP)]++G.drop (k+1)):=by
   have h:=Nq (A:=(G.take k).map jE) (D:=G.drop (k+1)) (g:=G.getD k aP) (x:=jE (G.getD k aP));rw[hal,<-hdr]at h;exact h
  refine hR1 (k+1) _ acN acN (.le ?_);rw[hst,dj aP G hlt,adr];simp(disch:=first | omega | (simp only[Lx];omega))only[go_sem,simprocAttr,adi,ad8]
 ·obtain rfl:k=G.length:=acN;rw[ac7]at hR;simp(disch:=first | omega | (simp only[Lx];omega))only[go_sem,simprocAttr,bX,adz]
  exact hR.wk (h':=[(216012,.arr 2 (a8 (G.map jE)))]) (r':=.sl 216012 0 G.length) (ar':=[.undef,.undef]) rfl (.le vV) ⟨rfl,rfl,rfl⟩
theorem ZC (fs:List Fi) (n:Nat):(mA fs n).length<=n:=by unfold mA;rw[ac7,acS];omega
theorem ZD {fs:List Fi} {n:Nat} {f:Fi} (h:f∈mA fs n):f.2.length<=3000/\∃g∈fs,f.1=g.1:=by
 obtain⟨g,hg,rfl⟩:=adN.1 h;refine⟨?_,g,aeu hg,rfl⟩;unfold jE;rw[acS];omega
theorem Np (L:List Fi):aB (a8 L) 0 L.length=a8 L:=by
 unfold aB;rw[ado,acP (by rw[bX];omega)]
def He (fs:List Fi):Prop:=fs.length*32<=140737488351232/\∀f∈fs,f.1.length<=140737488351232/\f.2.length<=140737488351232
theorem TJ:ob []:=⟨λf h=>(by simp at h),.nil,λf h=>(by simp at h)⟩
theorem SP (n:Nat) (id:Bs) (hi:id.length<=1000) (hid:bJ id=true):ao Tryz.prog 44 [fD [] n,.str id] (.af [.agg [.int .i64 0,.str []],.int .i64 7]):=by
 refine Cod.DH (λE R hN hR=>?_);have hpa:=xO id acN;rw[if_pos hid]at hpa;have hg:ao Tryz.prog 33 [fD [] n,.str (eX id)] (.af [.str [],.int .i64 7]):=uL [] n (eX id) .nil (by simp);refine wW ?_;refine ah hpa rfl rfl ?_;refine wW ?_;refine ah hg rfl rfl ?_;refine wW ?_;exact hR.ro ⟨rfl,rfl⟩
theorem Uu (n:Nat) (id:Bs) (hi:id.length<=1000) (hid:bJ id=true):ao Tryz.prog 12 [jd [] n [],.str id] (.af [.agg [.int .i64 0,.str []],.int .i64 7]):=by
 refine Cod.Em (λE R hN hR=>?_);have hr:=SP n id hi hid;refine wW ?_;refine ah hr rfl rfl ?_;simp(disch:=omega)only[go_sem,simprocAttr,lL,adn];refine aD hN (λ_:Unit=>⟨[(1,.str id),(4,.aa 249004 0),(28,.ro 2 (fC [])),(29,.int .i64 0),(30,.int .i64 0)],[(249004,.var [.int .i64 0,.str []])]⟩) (λ_=>True) (λ_=>0) () (.le vV) trivial ?_;rintro _ R1 _ hR1;refine wW ?_;exact hR.wk (h':=[]) (r':=.af [.agg [.int .i64 0,.str []],.int .i64 7]) (ar':=[.undef,.undef]) rfl (.le vV) ⟨rfl,rfl⟩
def gU:Bs:=[111,98,106,101,99,116,115,47,112,97,99,107,47,112,97,99,107,45,101,54,57,100,101,50,57,98,98,50,100,49,100,54,52,51,52,98,56,98,50,57,97,101,55,55,53,97,100,56,99,50,101,52,56,99,53,51,57,49,46,105,100,120]
def HG:Bs:=[101,54,57,100,101,50,57,98,98,50,100,49,100,54,52,51,52,98,56,98,50,57,97,101,55,55,53,97,100,56,99,50,101,52,56,99,53,51,57,49]
theorem IQ:jL [(gU,[])]=.error 6:=by
 have hu:bU eW [(gU,[])]=[gU]:=by decide +kernel
 have hp:dr []=.error 6:=by unfold dr;rw[if_pos (by decide)]
 have hs:stepP [(gU,[])] gU=.error 6:=by
  unfold stepP;rw[if_neg (by decide +kernel),show((getF gU [(gU,[])]).getD [])=[]by decide +kernel,hp]
 unfold jL;rw[hu]
 show packsP [(gU,[])] [gU] 1=_
 unfold packsP;rw[show packsP [(gU,[])] [gU] 0=.ok []from rfl];simp only[aei,hs]
theorem UL:jL []=.ok []:=by
 unfold jL
 show packsP [] [] 0=_
 rfl
theorem vF:ao Tryz.prog 9 [] (.bool true):=by
 refine Cod.IP (λE R hN hR=>?_);have hn1:=yZ [(gU,[])] (by decide) (λf hf=>by rw[ac8]at hf;subst hf;decide) (λf hf=>by rw[ac8]at hf;subst hf;decide);have hn2:Eng.Spec Tryz.prog 7 [] [.al] (Eb []):=Z3 (.cons (.one (.nil 2)) .nil) (yZ [] (by decide) (λf hf=>by simp at hf) (λf hf=>by simp at hf));refine wW ?_;refine ln ⟨[(13,.ro 2 (a8 [(gU,[])]))],[]⟩ (.bj 252013 (.le (by simp(disch:=first | omega | (simp only[Lx];omega))only[go_sem,simprocAttr];rfl))) rfl ?_
 refine jX hn1 rfl ?_;rintro h' v ar ⟨rfl,L,hL,hs,hcase⟩;obtain rfl:L=[(gU,[])]:=List.perm_singleton.1 hL
 have hok:ob [(gU,[])]:=by
  refine⟨λf hf=>?_,aee _ _,λf hf=>?_⟩
  ·rw[ac8]at hf;subst hf
   decide +kernel
  ·rw[ac8]at hf;subst hf;exact abt _ _
 rcases hcase with⟨_,n,rfl⟩ | ⟨hno,_⟩;rotate_left;exact absurd hok hno;refine⟨rfl,rfl,?_⟩;have ho1:=ya [(gU,[])] n hs (by decide) (λf hf=>by rw[ac8]at hf;subst hf;decide) (λf hf=>by rw[ac8]at hf;subst hf;decide);rw[IQ]at ho1;refine wW ?_;refine gG ?_;refine ah ho1 rfl rfl ?_;simp(disch:=first | omega | (simp only[Lx];omega))only[go_sem,simprocAttr,o7]
 refine jX hn2 rfl ?_;rintro h' v ar ⟨rfl,L,hL,hs2,hcase⟩;obtain rfl:L=[]:=hL.eq_nil;rcases hcase with⟨_,m,rfl⟩ | ⟨hno,_⟩;rotate_left;exact absurd TJ hno;refine⟨rfl,rfl,?_⟩;have ho2:=ya [] m hs2 (by decide) (λf hf=>by simp at hf) (λf hf=>by simp at hf);rw[UL]at ho2;have hg:=Uu m HG (by decide) (by decide +kernel);refine wW ?_;refine ah ho2 rfl rfl ?_;simp(disch:=first | omega | (simp only[Lx];omega))only[go_sem,simprocAttr,o7]
 refine gG ?_;refine ah hg rfl rfl ?_;refine wW ?_;refine gG ?_;exact hR.wk (h':=[]) (r':=.bool true) (ar':=[]) rfl (.le vV) ⟨rfl,rfl⟩
end Go.Proofs.YtoalcafkffmiiaaGreatDoor.Ls
