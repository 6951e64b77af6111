/- The proof, part 50 of 51. -/
import Derived.Test.YtgghhaahnpbnmaaGreatDoorCartularyWalksZV
import Derived.Test.YtgghhaahnpbnmaaGreatDoorCartularyWalksZW
set_option linter.all false
namespace Go.Proofs.YtgghhaahnpbnmaaGreatDoor.Ls
open Eng Ob Pk
set_option maxRecDepth 10000
def kp:Bs:=[52,98,56,50,53,100,99,54,52,50,99,98,54,101,98,57,97,48,54,48,101,53,52,98,102,56,100,54,57,50,56,56,102,98,101,101,52,57,48,52]
def nH:Cm.Sg:=⟨[97],0,0⟩
def iy (k:Nat) (ids:List Bs):Cm.bW:=⟨kp,ids,nH,nH,[UInt8.ofNat (97+k)]⟩
def iD (k:Nat) (r:List Int) (tl:List Cm.bW):List Bs:=r.map λp=>(tl.map dK).getD (p.toNat-(k+1)) []
def cmtL:Nat->List (List Int)->List Cm.bW
 | _,[]=>[]
 | k,r::t=>iy k (iD k r (cmtL (k+1) t))::cmtL (k+1) t
theorem sI:∀(k:Nat) (t:List (List Int)),(cmtL k t).length=t.length
 | _,[]=>rfl
 | k,r::t=>by rw[cmtL,acH,sI (k+1) t,acH]
theorem sG (c:Cm.bW):cd (dK c)=true:=u4 _
theorem Bh (c:Cm.bW):(dK c).length=40:=(kJ (sG c)).1
theorem Qv {tl:List Cm.bW} {k:Nat} (h:k<tl.length):cd ((tl.map dK).getD k [])=true:=by
 rw[acC,List.getElem?_map,List.getElem?_eq_getElem h];exact sG _
theorem EP {k:Nat} {r:List Int} {tl:List Cm.bW} (h:∀p∈r,(k:Int)<p/\p<(k:Int)+1+tl.length):∀x∈iD k r tl,cd x=true:=λx hx=>by
 obtain⟨p,hp,rfl⟩:=adu.1 hx;have:=h p hp;exact Qv acB
theorem ER:∀{l:List Bs},(∀x∈l,x.length=40)->(Cm.parT l).length=48*l.length
 | [],_=>rfl
 | x::r,h=>by
  have h1:=h x (acU ..);have h2:=ER (l:=r) (λy hy=>h y (acV _ hy));have hw:Cm.fP.length=6:=rfl;simp only[Cm.parT,acD,acH,h1,h2,hw];omega
theorem D1 {k:Nat} {l:List Bs} (h:∀x∈l,cd x=true):Cm.aY (iy k l)=if 16<l.length then 2 else 0:=by
 have h1:l.all Cm.fX=true:=acI.2 (λx hx=>h x hx);have h2:Cm.fX kp=true:=by show cd kp=true;decide +kernel
 have h3:Cm.fK nH=true:=by decide +kernel
 unfold Cm.aY iy;simp only;split;rfl
 ·rw[if_pos ⟨h1,h2,h3,h3⟩]
theorem FY:Cm.kr nH/\(10:UInt8)∉nH.bZ:=by
 have h3:Cm.fK nH=true:=by decide +kernel
 exact⟨Cm.rq h3,by decide⟩
theorem Uu {k:Nat} {l:List Bs} (h:∀x∈l,cd x=true):Cm.pz (iy k l):=by
 refine⟨by show(10:UInt8)∉kp;decide,λp hp hm=>?_,FY,FY⟩;have:=xI (h p hp) hm
 revert this;decide
theorem D2 {k:Nat} {l:List Bs} (h:∀x∈l,cd x=true) (h16:l.length<=16):(Cm.aU (iy k l)).length<=1000:=by
 have h1:=ER (λx hx=>(kJ (h x hx)).1);have h2:(Cm.ed nH).length=9:=by decide +kernel
 have e1:Cm.gp.length=4:=rfl;have e2:Cm.gO.length=6:=rfl;have e3:Cm.ik.length=9:=rfl;have e4:kp.length=40:=rfl;unfold Cm.aU iy;simp only[acD,acH,ac9,h1,h2,e1,e2,e3,e4];omega
def kq:List Cm.bW->List Fi->Prop
 | [],fs=>fs=[]
 | c::cs,fs=>∃fs' f,fs=fs'++[f]/\kq cs fs'/\nK 1 (Cm.aU c) f
theorem CH:∀{cs:List Cm.bW} {fs:List Fi},kq cs fs->fs.map (·.1)=((cs.map dK).map fv).reverse
 | [],_,h=>by cases h;rfl
 | c::cs,_,h=>by
  obtain⟨fs',f,rfl,h1,h2⟩:=h;rw[ady,CH h1]
  show _=(fv (dK c)::List.map fv (List.map dK cs)).reverse
  rw[List.reverse_cons]
  congr 1
  show[f.1]=_
  rw[h2.1];rfl
theorem CG:∀{cs:List Cm.bW} {fs:List Fi},kq cs fs->∀c∈cs,∃f∈fs,nK 1 (Cm.aU c) f
 | [],_,_,c,hc=>by simp at hc
 | x::cs,_,h,c,hc=>by
  obtain⟨fs',f,rfl,h1,h2⟩:=h;rcases acW.1 hc with rfl | hc;exact⟨f,List.mem_append_right _ (ac0.2 rfl),h2⟩
  ·obtain⟨g,hg,h3⟩:=CG h1 c hc;exact⟨g,ad1 _ hg,h3⟩
theorem CI:∀{cs:List Cm.bW} {fs:List Fi},kq cs fs->∀f∈fs,∃c∈cs,nK 1 (Cm.aU c) f
 | [],_,h,f,hf=>by cases h;simp at hf
 | x::cs,_,h,g,hg=>by
  obtain⟨fs',f,rfl,h1,h2⟩:=h;rcases adh.1 hg with hg | hg
  ·obtain⟨c,hc,h3⟩:=CI h1 g hg;exact⟨c,acV _ hc,h3⟩
  ·rw[ac0]at hg;subst hg;exact⟨x,acU ..,h2⟩
theorem Ek {α β:Type} {f:α->β}:∀{l:List α},(∀x∈l,∀y∈l,f x=f y->x=y)->l.Nodup->(l.map f).Nodup
 | [],_,_=>by simp
 | x::r,hf,h=>by
  have h':=aer.1 h;rw[adk];refine aer.2 ⟨λhm=>?_,Ek (λa ha b hb=>hf a (acV _ ha) b (acV _ hb)) h'.2⟩;obtain⟨y,hy,e⟩:=adu.1 hm;have:=hf y (acV _ hy) x (acU ..) e;exact h'.1 (by rw[<-this];exact hy)
theorem O1 {cs:List Cm.bW} {fs:List Fi} (h:kq cs fs) (hn:(cs.map dK).Nodup):(fs.map (·.1)).Nodup:=by
 rw[CH h,List.Perm.nodup_iff (List.reverse_perm _)];refine Ek (λx hx y hy e=>?_) hn;obtain⟨a,_,rfl⟩:=adu.1 hx;obtain⟨b,_,rfl⟩:=adu.1 hy;exact Wq (Bh a) (Bh b) e
theorem O2 {cs:List Cm.bW} {fs L:List Fi} (h:kq cs fs) (hL:L.Perm fs):vN L:=λf hf=>by
 obtain⟨c,_,hc⟩:=CI h f (hL.mem_iff.1 hf);exact⟨dK c,sG c,hc.1⟩
def mv (k:Nat):List (List Int)->Prop
 | []=>True
 | r::t=>(∀p∈r,(k:Int)<p/\p<(k:Int)+1+t.length)/\mv (k+1) t
def uE:List (List Int)->Prop:=λt=>∀r∈t,r.length<=16
theorem Bl:∀{k:Nat} {t:List (List Int)},mv k t->uE t->∀c∈cmtL k t,Cm.pz c/\Cm.aY c=0/\(Cm.aU c).length<=1000
 | _,[],_,_,c,hc=>by simp[cmtL]at hc
 | k,r::t,h,h16,c,hc=>by
  rw[cmtL]at hc;rcases acW.1 hc with rfl | hc
  ·have hid:∀x∈iD k r (cmtL (k+1) t),cd x=true:=EP (by rw[sI];exact h.1);have hl:(iD k r (cmtL (k+1) t)).length<=16:=by unfold iD;rw[acY];exact h16 r (acU ..)
   exact⟨Uu hid,by rw[D1 hid,if_neg acB],D2 hid hl⟩
  exact Bl h.2 (λx hx=>h16 x (acV _ hx)) c hc
theorem Bk:∀(k:Nat) (t:List (List Int)) (j:Nat),j<t.length->(cmtL k t)[j]?=some (iy (k+j) (iD (k+j) (t.getD j []) ((cmtL k t).drop (j+1))))
 | _,[],_,h=>by simp at h
 | k,r::t,0,_=>by simp[cmtL]
 | k,r::t,j+1,h=>by
  have ih:=Bk (k+1) t j (by simpa using h);rw[cmtL];simp only[List.getElem?_cons_succ,adP,adw];rw[ih,show k+1+j=k+(j+1)by omega]
theorem rj:∀{k:Nat} {t:List (List Int)},mv k t->∀j,j<t.length->∀p∈t.getD j [],((k+j:Nat):Int)<p/\p<(k:Int)+t.length
 | _,[],_,_,h,_,_=>by simp at h
 | k,r::t,h,0,_,p,hp=>by
  have:=h.1 p (by simpa using hp)
  simp only[acH];omega
 | k,r::t,h,j+1,hj,p,hp=>by
  have:=rj h.2 j (by simpa using hj) p (by simpa using hp);simp only[acH];omega
def fJ (t:List (List Int)) (k:Nat):List Nat:=(t.getD k []).map Int.toNat
theorem Lv {t:List (List Int)} {fs L:List Fi} (h:mv 0 t) (h16:uE t) (hf:kq (cmtL 0 t) fs) (hL:L.Perm fs) (hs:iq L) {k:Nat} (hk:k<t.length) :
    ji L [] (((cmtL 0 t).map dK).getD k [])=(0,(fJ t k).map λp=>((cmtL 0 t).map dK).getD p []):=by
 have hg:=Bk 0 t k hk;rw[adr]at hg;obtain⟨c,hc⟩:∃c,c=iy k (iD k (t.getD k []) ((cmtL 0 t).drop (k+1))):=⟨_,rfl⟩;rw[<-hc]at hg;have hm:c∈cmtL 0 t:=acS hg;obtain⟨h1,h2,h3⟩:=Bl h h16 c hm;obtain⟨f,hff,h4⟩:=CG hf c hm;have hid:((cmtL 0 t).map dK).getD k []=dK c:=by rw[acC,List.getElem?_map,hg];rfl
 rw[hid,Lw h1 h2 h3 h4 hs (hL.mem_iff.2 hff)]
 congr 1
 rw[hc]
 show iD k (t.getD k []) ((cmtL 0 t).drop (k+1))=_
 unfold iD fJ;rw[adD];refine adN (λp hp=>?_);have:=rj h k hk p hp;simp only[Function.comp];rw[acC,acC,List.getElem?_map,List.getElem?_map,List.getElem?_drop,show k+1+(p.toNat-(k+1))=p.toNat by omega]
theorem V7 {t:List (List Int)} (h:mv 0 t):∀k,k<t.length->∀p∈fJ t k,k<p/\p<t.length:=λk hk p hp=>by
 obtain⟨q,hq,rfl⟩:=adu.1 hp;have:=rj h k hk q hq;omega
open Eng
set_option maxRecDepth 10000
theorem Ha {u v:Int}:∀{n:Nat} {a b:Int},Gr.eu u v a b=n+1->b<=v->(Gr.gQ u v a b).length=n+1/\(Gr.gQ u v a b).getD n (0,0)=(u,v)
 | n,a,b,h,hb=>by
  have hs:=Gr.G9 hb (by omega:0<Gr.eu u v a b)
  have hc:Gr.gQ u v a b=Gr.cX u v a b::Gr.gQ u v (Gr.cX u v a b).1 (Gr.cX u v a b).2:=by
   rw[Gr.gQ,<-hs.1,Gr.wayGo];rfl
  cases n with
  | zero=>
   have hn:Gr.eu u v (Gr.cX u v a b).1 (Gr.cX u v a b).2=0:=acB;have e:Gr.gQ u v (Gr.cX u v a b).1 (Gr.cX u v a b).2=[]:=by rw[Gr.gQ,hn,Gr.wayGo]
   rw[hc,e];refine⟨rfl,?_⟩;obtain⟨w,hw⟩:∃w,w=Gr.cX u v a b:=⟨_,rfl⟩;rw[<-hw]at hn hs |-;unfold Gr.eu at hn
   show w=(u,v)
   obtain⟨x,y⟩:=w;simp only at hn hs |-;have h1:x=u:=acB;have h2:y=v:=acB
   rw[h1,h2]
  | succ n=>
   have ih:=Ha (u:=u) (v:=v) (n:=n) (a:=(Gr.cX u v a b).1) (b:=(Gr.cX u v a b).2) acB hs.2;rw[hc];exact⟨by rw[acH,ih.1],by rw[adP];exact ih.2⟩
theorem Bf {n i:Int}:∀{s l:List Int},Gr.chkRow n i s l=true->∀x∈l,i<x/\x<n
 | _,[],_,x,hx=>by simp at hx
 | s,y::r,h,x,hx=>by
  unfold Gr.chkRow at h;split at h
  ·cases h
  ·split at h
   ·cases h
   ·rcases acW.1 hx with rfl | hx
    ·rename_i h1 _;omega
    exact Bf h x hx
theorem Bg {n:Int}:∀{k:Nat} {t:List (List Int)},Gr.chkRows n k t=true->n=(k:Int)+t.length->mv k t
 | _,[],_,_=>trivial
 | k,r::t,h,hn=>by
  unfold Gr.chkRows at h;rw[acN]at h;rw[acH]at hn;refine⟨λp hp=>?_,Bg h.2 (by push_cast at hn |-;omega)⟩;have:=Bf h.1 p hp
  push_cast at hn;omega
theorem WW {t:List (List Int)} (h:(Gr.placesP t).2.2=0):mv 0 t:=by
 unfold Gr.placesP at h;by_cases hc:Gr.aY t=0
 ·unfold Gr.aY at hc;split at hc
  ·cases hc
  ·split at hc
   ·rename_i hr;exact Bg hr (by simp)
   ·cases hc
 ·rw[if_neg hc]at h;exact absurd h hc
open Eng Ob
set_option maxRecDepth 10000
def fC (R:List Bool):List AV:=R.map AV.bool
theorem lD (R:List Bool):(fC R).length=R.length:=by simp[fC]
theorem np {R:List Bool} {i:Nat} (h:i<R.length):nth (fC R) i=.bool (R.getD i false):=Er h
theorem AQ (R:List Bool) (i:Nat) (b:Bool):(fC R).set i (.bool b)=fC (R.set i b):=by simp[fC]
theorem AP (R:List Bool):(fC R).all aD=true:=by simp[fC,aD,cellsOf,isCell]
theorem J9 (R:List Bool):aB (fC R) 0 R.length=fC R:=by
 unfold aB;rw[adp,acF (by rw[lD];omega)]
theorem DW (p:Nat):∀(q:List Nat) (R:List Bool),markR R (q++[p])=(markR R q).set p true
 | [],R=>rfl
 | x::r,R=>by rw[acZ,markR,DW p r,markR]
theorem YP {R:List Bool} {p:Nat} (h:R.getD p false=true):R.set p true=R:=by
 refine adW (λk=>?_);rw[List.getElem?_set];by_cases e:p=k
 ·subst e;have hp:=tz h;rw[if_pos rfl,if_pos hp];rw[acC,List.getElem?_eq_getElem hp,ads]at h;rw[List.getElem?_eq_getElem hp,h]
 ·rw[if_neg e]
theorem count_set {R:List Bool} {p:Nat} (hp:p<R.length) (h:R.getD p false=false):(R.set p true).count true=R.count true+1:=by
 rw[acC,List.getElem?_eq_getElem hp,ads]at h;rw[List.count_set hp,h];simp
theorem Xr (P:Nat->List Nat) {n k:Nat} (h:k<n) (R:List Bool):reachR P (n-k) k R=reachR P (n-(k+1)) (k+1) (if R.getD k false=true then markR R (P k)else R):=by
 rw[show n-k=(n-(k+1))+1 by omega,reachR]
theorem aab (n:Nat):aR (List.replicate n [])=List.replicate n (.str []):=by simp[aR]
theorem N5:bK []=[]:=(rfl)
theorem aac (l:List Bs) (i:Nat) (x:Bs):(aR l).set i (.str x)=aR (l.set i x):=by simp[aR]
theorem J8 (n:Nat):List.replicate n (AV.bool false)=fC (List.replicate n false):=by simp[fC]
theorem WI:Gr.oT [[1],[]]=([[42],[42]],0):=by decide +kernel
set_option maxHeartbeats 8000000 in
theorem abB (ps0:List (List Int)) (h1:ps0.length<=9223372036854775807) (h2:∀r∈ps0,r.length<=9223372036854775807):aw Tryz.prog 3 [.ro 1 (Gr.a8 ps0)] (.bool true):=by
 refine Cod.abC (λE R hN hR=>?_);have fin:∀{h},R h (.bool true) [.undef]:=hR.ro ⟨rfl,rfl⟩;have hp:=Gr.Ps [[1],[]] (by decide) (by decide);rw[WI]at hp;have hp':aw Tryz.prog 4 [.ro 1 [.ro 1 [.int .i64 1],.an]] (.ab [.ro 1 [.str [42],.str [42]],.int .i64 0]):=Gh (.cons (.ro (.cons (.refl _) (.cons (.nil 1) .nil))) .nil) hp;refine wW ?_;refine lE ⟨[(0,.ro 1 (Gr.a8 ps0)),(42,.ro 1 [.ro 1 [.int .i64 1],.an])],[]⟩ (.bn 310042 (.le vV)) rfl ?_;refine aj hp' rfl rfl ?_;have hn1:nth [AV.str [42],AV.str [42]] 1=AV.str [42]:=rfl;refine ah hn1 ?_;refine cB hn1 ?_;refine aj (Gr.NY ps0 h1 h2) rfl rfl ?_;obtain⟨hl0,hr0⟩:=Gr.N0 ps0;generalize Gr.jS ps0=ps at *
 by_cases hb:25<ps.length
 ·have hb':(25:Int)<(ps.length:Int):=acB;simp(disch:=first | omega | (simp only[Lx];omega))only[go_sem,simprocAttr,acY,hb'];exact fin
 have hb':¬(25:Int)<(ps.length:Int):=acB;have aL:=Gr.CW ps acB (λr hr=>by have:=hr0 r hr;omega);have hpf:=Gr.E9 ps;have hrw:=WW (t:=ps);simp(disch:=first | omega | (simp only[Lx];omega))only[go_sem,simprocAttr,acY,hb'];generalize Gr.placesP ps=pl at *
 obtain⟨pa,prs,pe⟩:=pl;simp only at aL hpf hrw;refine aj aL rfl rfl ?_;by_cases hpe:pe=0;rotate_left
 ·refine ah hpe ?_;exact fin
 subst hpe;have hrok:=hrw rfl;rcases hpf with⟨_,hal,_,haf,_⟩ | ⟨hne,_⟩;rotate_left;exact absurd rfl hne;obtain⟨n,hn⟩:∃n,n=ps.length:=⟨_,rfl⟩;have hn25:n<=25:=acB;have qx:ps.drop n=[]:=by rw[hn,adL]
 simp(disch:=first | omega | (simp only[Lx];omega))only[go_sem,simprocAttr,acY,<-hn]
 refine aJ hN (λq:Nat×List Fi=>⟨[(0,.ro 1 (Gr.a8 ps)),(5,.ro 1 (pa.map Gr.cN)),(8,.sl 310074 0 n),(9,.sl 310138 0 q.2.length),(10,.aa 310010 0),(11,.int .i64 ((q.1:Int)-1))],
     [(310074,.arr 1 (aR (List.replicate q.1 []++(cmtL q.1 (ps.drop q.1)).map dK))),(310138,.arr 2 (bK q.2)),(310010,.var [.str [97],.int .i64 0,.int .i64 0])]⟩)
  (λq=>q.1<=n/\uE (ps.drop q.1)/\kq (cmtL q.1 (ps.drop q.1)) q.2/\q.2.length=n-q.1/\∀f∈q.2,f.1.length<=1000/\f.2.length<=10000) (λq=>q.1) (n,[])
  (.iZ 310075 310138 rfl rfl (.le (by simp(disch:=first | omega | (simp only[Lx];omega))only[go_sem,simprocAttr,qx,cmtL,aef,adx,aab,N5]))) ⟨acG _,by rw[hn,adL];intro r hr;simp at hr,by rw[hn,adL];rfl,by simp,by simp⟩ ?_
 rintro⟨k,fs⟩ R1 ⟨hk,h16,hfs,hfl,hfb⟩ hR1;simp only at hk h16 hfs hfl hfb;by_cases hk0:0<k
 ·obtain⟨j,rfl⟩:∃j,k=j+1:=⟨k-1,acB⟩;have hjn:j<ps.length:=acB;obtain⟨row,hrow⟩:∃row,row=ps.getD j []:=⟨_,rfl⟩;obtain⟨tl,htl⟩:∃tl,tl=cmtL (j+1) (ps.drop (j+1)):=⟨_,rfl⟩
  have hdr:ps.drop j=row::ps.drop (j+1):=by
   rw[hrow,acC,List.getElem?_eq_getElem hjn];exact adl hjn
  have htll:tl.length=n-(j+1):=by rw[htl,sI,acK,hn]
  have hrl:row.length<=60:=hr0 row (by rw[hrow];exact dL [] hjn)
  have hrp:∀p∈row,(j:Int)<p/\p<(n:Int):=λp hp=>by
   have:=rj hrok j hjn p (by rw[<-hrow];exact hp);omega
  rw[<-htl]at hfs;have ej:(j:Int)+1-1=(j:Int):=acB;obtain⟨b97,hb97⟩:∃b97,b97=UInt8.ofNat (97+j):=⟨_,rfl⟩
  have e97:(97:Int)+(j:Int)=(b97.toNat:Int):=by
   rw[hb97,ada];omega
  have hbo:bytesOf [AV.int .u8 (b97.toNat:Int)]=[b97]:=by simp[bytesOf,byteOfAV]
  obtain⟨ids,hids⟩:∃ids,ids=List.replicate (j+1) []++tl.map dK:=⟨_,rfl⟩;have hidl:ids.length=n:=by rw[hids,acD,ac3,acY];omega
  have hidg:∀p:Nat,j<p->p<n->ids.getD p []=(tl.map dK).getD (p-(j+1)) []:=λp g1 g2=>by
   rw[hids,acC,List.getElem?_append_right (by rw[ac3];omega),ac3,<-acC]
  have hpar:∀q,q<row.length->∃pn:Nat,row.getD q 0=(pn:Int)/\j<pn/\pn<n/\(iD j row tl).getD q []=ids.getD pn []:=λq hq=>by
   have:=hrp _ (dL (l:=row) 0 hq);obtain⟨pn,hpn⟩:=adg (show 0<=row.getD q 0 by omega);refine⟨pn,hpn,acB,acB,?_⟩;rw[hidg pn acB acB];unfold iD;rw[acC,List.getElem?_map,List.getElem?_eq_getElem hq];rw[acC,List.getElem?_eq_getElem hq,ads]at hpn;rw[ac7,ads,hpn,aeM]
  obtain⟨pr,hpr⟩:∃pr,pr=iD j row tl:=⟨_,rfl⟩;have hprl:pr.length=row.length:=by rw[hpr];unfold iD;rw[acY]
  rw[<-hpr]at hpar;simp(disch:=first | omega | (simp only[Lx];omega))only[go_sem,simprocAttr,ej,<-hrow,<-htl,<-hids];rw[e97,hbo];refine⟨by simp[gw,jy],?_⟩
  refine aJ hN (λq:Nat=>⟨[(0,.ro 1 (Gr.a8 ps)),(5,.ro 1 (pa.map Gr.cN)),(8,.sl 310074 0 n),(9,.sl 310138 0 fs.length),(10,.aa 310010 0),(11,.int .i64 (j:Int)),(12,.aa 310012 0),(95,.ro 1 (row.map (AV.int .i64))),(96,.int .i64 row.length),(97,.int .i64 q)],
      [(310074,.arr 1 (aR ids)),(310138,.arr 2 (bK fs)),(310010,.var [.str [97],.int .i64 0,.int .i64 0]),(310012,.var [.str kp,.sl 310108 0 (pr.take q).length,.str [97],.int .i64 0,.int .i64 0,.str [97],.int .i64 0,.int .i64 0,.str [b97]]),(310108,.arr 1 (aR (pr.take q)))]⟩)
   (λq=>q<=row.length) (λq=>row.length-q) 0 (.iW 310012 1 310108 1 _ (by simp(disch:=first | omega | (simp only[Lx];omega))only[go_sem,simprocAttr];rfl) rfl rfl (.le (by simp(disch:=first | omega | (simp only[Lx];omega))only[go_sem,simprocAttr,ad3,zh,ac9,acY,kp]))) (ac5 _) ?_
  rintro q R2 hq hR2;by_cases hql:q<row.length
  ·obtain⟨pn,e1,e2,e3,e4⟩:=hpar q hql;have hst:=dS [] pr (by omega:q<pr.length);have hptl:(pr.take q).length=q:=by rw[acJ];omega
   rw[e4]at hst;simp(disch:=first | omega | (simp only[Lx];omega))only[go_sem,simprocAttr,e1,hidl,bJ,hV,acY];rw[rH];exact⟨⟨kl,acB⟩,hR2 (q+1) _ acB acB (.le (by simp(disch:=first | omega | (simp only[Lx];omega))only[go_sem,simprocAttr,hst,vf,acD,acX]))⟩
  obtain rfl:q=row.length:=acB;have htk:pr.take row.length=pr:=acF acB
  have hidp:∀x∈pr,cd x=true:=by
   rw[hpr];exact EP (λp hp=>by have:=hrp p hp;rw[htll];omega)
  have hcm:Cm.eC (iy j pr)=.agg [.str kp,.ro 1 (aR pr),.str [97],.int .i64 0,.int .i64 0,.str [97],.int .i64 0,.int .i64 0,.str [b97]]:=by rw[hb97];rfl
  have hck:=D1 (k:=j) hidp;have hfm:=Cm.OH (iy j pr) ⟨by show kp.length<=_;decide,⟨by show pr.length<=_;omega,λp hp=>by have:=(kJ (hidp p hp)).1;omega⟩,by show 1<=_;decide,by show 1<=_;decide,by show 1<=_;decide⟩;rw[hcm]at hfm;unfold Cm.xv at hfm;rw[hck,hprl]at hfm;rw[htk];refine wW ?_
  refine lE ⟨[(0,.ro 1 (Gr.a8 ps)),(5,.ro 1 (pa.map Gr.cN)),(8,.sl 310074 0 n),(9,.sl 310138 0 fs.length),(10,.aa 310010 0),(11,.int .i64 (j:Int)),(112,.agg [.str kp,.ro 1 (aR pr),.str [97],.int .i64 0,.int .i64 0,.str [97],.int .i64 0,.int .i64 0,.str [b97]])],
   [(310074,.arr 1 (aR ids)),(310138,.arr 2 (bK fs)),(310010,.var [.str [97],.int .i64 0,.int .i64 0])]⟩ (.bn 310108 (.le (lv @rH @kl))) rfl ?_
  refine aj hfm rfl rfl ?_;by_cases h16r:16<row.length
  ·rw[if_pos h16r];refine wW ?_;exact fin
  have hcm2:cmtL j (ps.drop j)=iy j pr::tl:=by rw[hdr,cmtL,<-htl,<-hpr]
  have hTl:=D2 (k:=j) hidp acB;rw[if_neg h16r,if_pos rfl];obtain⟨T,hT⟩:∃T,T=Cm.aU (iy j pr):=⟨_,rfl⟩
  have hck1:aY 1 T=0:=by
   unfold aY;rw[if_neg (by decide),if_neg (by rw[hT];omega)]
  rw[<-hT]at hTl |-;have hix:=tR 1 T acB;have hwr:=Uj 1 T hTl;unfold oG at hix;rw[if_pos hck1]at hix;unfold ft at hix hwr;obtain⟨X,hX⟩:∃X,X=Sh.b7 (Sh.dR (aU 1 T)):=⟨_,rfl⟩;rw[<-hX]at hix;have hXc:X=dK (iy j pr):=by rw[hX,hT];rfl
  have bo:ids.set j X=List.replicate j []++(cmtL j (ps.drop j)).map dK:=by
   rw[hids,hcm2,aey,ade,afm _ _ (by simp),ac3,ae5,hXc];rfl
  refine wW ?_;refine aj hix rfl rfl ?_;simp(disch:=first | omega | (simp only[Lx];omega))only[go_sem,simprocAttr,hidl,bJ,hV,aac,bo];refine dJ hwr rfl ?_;rintro h' v ar ⟨rfl,hv⟩;rw[if_pos hck1]at hv;obtain⟨f,hf,rfl⟩:=hv;refine⟨rfl,rfl,?_⟩
  have hfb2:f.1.length<=1000/\f.2.length<=10000:=by
   obtain⟨g1,t,ht,g2⟩:=hf;have hzl:=Pk.Hi t (aU 1 T);have hdf:=Pk.BH ht
   have htl:(aU 1 T).length<=2000:=by
    have h1:=Ob.qQ 1;have h2:=lU (T.length:Int) acB acB;unfold aU;rw[acD,acH,acD,acH];omega
   have:=(l4 (u4 (aU 1 T))).2;rw[g1,g2];omega
  have hgo:uE (ps.drop j)/\kq (cmtL j (ps.drop j)) (fs++[f])/\(fs++[f]).length=n-j/\∀x∈fs++[f],x.1.length<=1000/\x.2.length<=10000:=by
   refine⟨?_,?_,by rw[acD,acX];omega,λx hx=>?_⟩
   ·rw[hdr];intro r hr;rcases acW.1 hr with rfl | hr;omega
    exact h16 r hr
   ·rw[hcm2];exact⟨fs,f,rfl,hfs,by rw[<-hT];exact hf⟩
   ·rcases adh.1 hx with hx | hx;exact hfb x hx
    ·rw[ac0.1 hx];exact hfb2
  refine cW @cF @td @Cr @N3 ?_;exact hR1 (j,fs++[f]) _ (by simp only;omega) ⟨by simp only;omega,hgo⟩ (.le (by simp(disch:=first | omega | (simp only[Lx];omega))only[go_sem,simprocAttr,acD,acX]))
 ·obtain rfl:k=0:=acB;rw[adp]at h16 hfs;obtain⟨cs,hcs⟩:∃cs,cs=cmtL 0 ps:=⟨_,rfl⟩;obtain⟨ids,hids⟩:∃ids,ids=cs.map dK:=⟨_,rfl⟩;have hidl:ids.length=n:=by rw[hids,acY,hcs,sI,hn]
  have hidx:∀x∈ids,cd x=true:=λx hx=>by
   rw[hids]at hx;obtain⟨c,_,rfl⟩:=adu.1 hx;exact sG c
  rw[<-hcs]at hfs;simp(disch:=first | omega | (simp only[Lx];omega))only[go_sem,simprocAttr,adp,<-hcs,<-hids]
  refine aJ hN (λi:Nat=>⟨[(0,.ro 1 (Gr.a8 ps)),(5,.ro 1 (pa.map Gr.cN)),(8,.ro 1 (aR ids)),(9,.ro 2 (bK fs)),(139,.ro 1 (aR ids)),(140,.int .i64 n),(141,.int .i64 i)],[]⟩)
   (λi=>i<=n/\(ids.take i).Nodup) (λi=>n-i) 0 (.bn 310074 (.bn 310138 (.le (by simp(disch:=first | omega | (simp only[Lx];omega))only[go_sem,simprocAttr,<-hidl,rH,kl,Cr,td])))) ⟨ac5 _,by simp⟩ ?_
  rintro i R2 ⟨hi,hnd⟩ hR2;by_cases hin:i<n
  ·have hil:i<ids.length:=acB;have htk:(ids.take i).length=i:=by rw[acJ];omega
   have hsub:aB (aR ids) 0 i=aR (ids.take i):=by unfold aB aR;rw[adp,List.map_take]
   refine cI hidl @bJ @hV ?_
   refine aJ hN (λk:Nat=>⟨[(0,.ro 1 (Gr.a8 ps)),(5,.ro 1 (pa.map Gr.cN)),(8,.ro 1 (aR ids)),(9,.ro 2 (bK fs)),(21,.str (ids.getD i [])),(139,.ro 1 (aR ids)),(140,.int .i64 n),(141,.int .i64 i),(148,.ro 1 (aR (ids.take i))),(149,.int .i64 i),(150,.int .i64 k)],[]⟩)
    (λk=>k<=i/\ids.getD i []∉(ids.take i).take k) (λk=>i-k) 0 (.le (GZ hsub @bJ htk)) ⟨ac5 _,by simp⟩ ?_
   rintro k R3 ⟨hk,hno⟩ hR3;by_cases hki:k<i
   ·have htk2:=dS [] (ids.take i) (by omega:k<(ids.take i).length);by_cases he:(ids.take i).getD k []=ids.getD i []
    ·have hne:¬ids.getD i []=[]:=λe=>by
      have:=(kJ (hidx _ (dL [] hil))).1;rw[e]at this;simp at this
     refine gP @bJ htk @hV he hne ?_;exact fin
    ·refine cW @bJ htk @hV he ?_;refine hR3 (k+1) _ acB ⟨acB,?_⟩ (.le vV);rw[htk2,adh,ac0];exact λh=>h.elim hno (λe=>he e.symm)
   ·obtain rfl:k=i:=acB;rw[acF acB]at hno;refine ah htk ?_;refine hR2 (k+1) _ acB ⟨acB,?_⟩ (.le vV);rw[dS [] ids hil];exact List.nodup_append.2 ⟨hnd,by simp,λa ha b hb e=>hno (by rw[ac0]at hb;rw[<-hb,<-e];exact ha)⟩
  obtain rfl:i=n:=acB;rw[acF acB]at hnd;have hfn:fs.length=i:=acB;have hnw:=Zi fs acB (λf hf=>by have:=(hfb f hf).1;omega) (λf hf=>(hfb f hf).2);refine wW ?_;refine dJ hnw rfl ?_;rintro h' v ar ⟨rfl,L,hL,hs,hcase⟩;have hobj:=O2 hfs hL;have hndL:(L.map (·.1)).Nodup:=(List.Perm.nodup_iff (hL.map _)).2 (O1 hfs (by rw[<-hids];exact hnd));have hok:=U4 hs hndL hobj;rcases hcase with⟨_,m,rfl⟩ | ⟨hno,_⟩;rotate_left;exact absurd hok hno;have hLl:=hL.length_eq
  have hLc:∀f∈L,f.1.length<=200:=λf hf=>by
   obtain⟨x,h1,h2⟩:=hobj f hf;rw[h2];have:=(l4 h1).2;omega
  have hLd:∀f∈L,f.2.length<=100000:=λf hf=>by have:=(hfb f (hL.mem_iff.1 hf)).2;omega
  have ho:=VM L m hs acB hLc hLd;rw[Vx hobj]at ho;have hod:rX L []:=⟨hs,acB,λf hf=>by have:=hLd f hf;omega,λk hk=>by simp at hk,by decide,λp hp=>by simp at hp⟩
  have hPk:∀k,k<i->∀p∈fJ ps k,k<p/\p<i:=λk hk p hp=>by
   have:=V7 hrok k acB p hp;omega
  have hcma:∀k,k<i->ji L [] (ids.getD k [])=(0,(fJ ps k).map λp=>ids.getD p []):=λk hk=>by
   rw[hids,hcs];exact Lv hrok h16 (by rw[<-hcs];exact hfs) hL hok.2.1 acB
  have hpa:(pa.length:Int)=(i:Int):=acB;refine⟨rfl,rfl,?_⟩;refine wW ?_;refine gG ?_;refine aj ho rfl rfl ?_;simp(disch:=first | omega | (simp only[Lx];omega))only[go_sem,simprocAttr,uy,acY,bJ,hidl,hpa]
  (repeat(first | refine eJ ?_ | refine eH ?_ | refine eI ?_)<;>simp(disch:=first | omega | (simp only[Lx];omega))only[go_sem,simprocAttr,uy,acY,bJ,hidl,hpa])
  refine aJ hN (λq:Nat=>⟨[(0,.ro 1 (Gr.a8 ps)),(5,.ro 1 (pa.map Gr.cN)),(8,.ro 1 (aR ids)),(25,gb L m []),(190,.ro 1 (aR ids)),(191,.int .i64 i),(192,.int .i64 q)],[]⟩) (λq=>q<=i) (λq=>i-q) 0 (.le vV) (ac5 _) ?_;rintro q R3 hq hR3;by_cases hqi:q<i;rotate_left
  ·obtain rfl:q=i:=acB;refine wW ?_;exact fin
  have hql:q<ids.length:=acB;obtain⟨l,hl,hll,hlk⟩:=abA hPk hidl hnd hcma hn25 hqi;have hx40:=λk (hk:k<ids.length)=>(kJ (hidx _ (dL (l:=ids) [] hk))).1;have ha:=C0 L m [] (ids.getD q []) 25 hod (by have:=hx40 q hql;omega) (by decide);have hbf:=λold=>PW L m [] old (ids.getD q []) 25 hod (by have:=hx40 q hql;omega) (by decide);rw[hl]at ha;simp only[hl]at hbf;rw[show((25:Nat):Int)=25 from rfl]at ha hbf;unfold r9 at ha;obtain⟨F,hF⟩:∃F,F=reachR (fJ ps) (i-q) q ((List.replicate i false).set q true):=⟨_,rfl⟩;rw[<-hF]at hll hlk;have hFl:F.length=i:=by rw[hF,yJ,ad5,ac3]
  refine cI hidl @bJ @hV ?_;refine aj ha rfl rfl ?_;simp(disch:=first | omega | (simp only[Lx];omega))only[go_sem,simprocAttr,hidl,bJ,J8,lD,ac3,np,AQ]
  have hc1:((((List.replicate i false).set q true).count true:Nat):Int)=1:=by
   rw[count_set (by rw[ac3];exact hqi) (by rw[acC,List.getElem?_replicate,if_pos hqi];rfl),List.count_replicate];rfl
  refine aJ hN (λz:Nat×List Bool=>⟨[(0,.ro 1 (Gr.a8 ps)),(5,.ro 1 (pa.map Gr.cN)),(8,.ro 1 (aR ids)),(25,gb L m []),(27,.str (ids.getD q [])),(28,.ro 1 (aR l)),(30,.sl 310207 0 i),(31,.int .i64 ((z.2.count true:Nat):Int)),(32,.int .i64 z.1),(190,.ro 1 (aR ids)),(191,.int .i64 i),(192,.int .i64 q)],[(310207,.arr 1 (fC z.2))]⟩)
   (λz=>q<=z.1/\z.1<=i/\z.2.length=i/\reachR (fJ ps) (i-z.1) z.1 z.2=F) (λz=>i-z.1) (q,(List.replicate i false).set q true) (.le (eY hc1)) ⟨acG _,acB,by rw[ad5,ac3],hF.symm⟩ ?_
  rintro⟨k,Rr⟩ R4 ⟨hqk,hki,hRl,hRf⟩ hR4;simp only at hqk hki hRl hRf;by_cases hkl:k<i
  ·rw[Xr _ hkl]at hRf;obtain⟨row,hrow⟩:∃row,row=ps.getD k []:=⟨_,rfl⟩;have hkp:k<ps.length:=acB;by_cases hrk:Rr.getD k false=true;rotate_left
   ·have hrk':Rr.getD k false=false:=by simpa using hrk
    rw[if_neg hrk]at hRf;refine rQ hidl @bJ @lD hRl @np hrk' ?_;exact hR4 (k+1,Rr) _ (by simp only;omega) ⟨by simp only;omega,by simp only;omega,hRl,hRf⟩ (.le vV)
   rw[if_pos hrk]at hRf
   have hrp:∀p∈row,(k:Int)<p/\p<(i:Int):=λp hp=>by
    have:=rj hrok k hkp p (by rw[<-hrow];exact hp);omega
   have hPk2:(fJ ps k).length=row.length:=by unfold fJ;rw[acY,<-hrow]
   have hrl:row.length<=60:=hr0 row (by rw[hrow];exact dL [] hkp);simp(disch:=first | omega | (simp only[Lx];omega))only[go_sem,simprocAttr,hidl,bJ,lD,hRl,np,hrk,<-hrow,acY]
   refine aJ hN (λw:Nat=>⟨[(0,.ro 1 (Gr.a8 ps)),(5,.ro 1 (pa.map Gr.cN)),(8,.ro 1 (aR ids)),(25,gb L m []),(27,.str (ids.getD q [])),(28,.ro 1 (aR l)),(30,.sl 310207 0 i),(31,.int .i64 (((markR Rr ((fJ ps k).take w)).count true:Nat):Int)),(32,.int .i64 k),(190,.ro 1 (aR ids)),(191,.int .i64 i),(192,.int .i64 q),(226,.ro 1 (row.map (AV.int .i64))),(227,.int .i64 row.length),(228,.int .i64 w)],[(310207,.arr 1 (fC (markR Rr ((fJ ps k).take w))))]⟩)
    (λw=>w<=row.length) (λw=>row.length-w) 0 (.le (by simp(disch:=first | omega | (simp only[Lx];omega))only[go_sem,simprocAttr,ad3,markR])) (ac5 _) ?_
   rintro w R5 hw hR5;by_cases hwl:w<row.length
   ·obtain⟨pn,e1⟩:=adg (show 0<=row.getD w 0 by have:=hrp _ (dL (l:=row) 0 hwl);omega);have hpn:=hrp _ (dL (l:=row) 0 hwl);rw[e1]at hpn;obtain⟨M,hM⟩:∃M,M=markR Rr ((fJ ps k).take w):=⟨_,rfl⟩;have hMl:M.length=i:=by rw[hM,uk,hRl]
    have gy:(fJ ps k).getD w 0=pn:=by
     unfold fJ;rw[<-hrow,acC,List.getElem?_map,List.getElem?_eq_getElem hwl];rw[acC,List.getElem?_eq_getElem hwl,ads]at e1;rw[ac7,ads,e1,aeM]
    have hst:markR Rr ((fJ ps k).take (w+1))=M.set pn true:=by
     rw[dS 0 (fJ ps k) acB,DW,<-hM,gy]
    have pla:∀j,j<i->∃x:Int,pa.getD j default=(x,(j:Int))/\0<=x/\x<40:=λj hj=>by
     have hj2:j<pa.length:=acB;obtain⟨g1,g2,g3⟩:=haf j _ (List.getElem?_eq_getElem hj2);refine⟨(pa[j]).1,?_,g2,g3⟩;rw[acC,List.getElem?_eq_getElem hj2,ads,<-g1]
    obtain⟨x,hx,x0,x1⟩:=pla k hkl;obtain⟨u,hu,u0,u1⟩:=pla pn acB;have hwy:=Gr.PL x k u pn ⟨x0,acB⟩ ⟨u0,acB⟩ acB acB acB;obtain⟨N,hN2⟩:∃N,Gr.eu u pn x k=N+1:=⟨Gr.eu u pn x k-1,by unfold Gr.eu;omega⟩;obtain⟨hw1,hw2⟩:=Ha hN2 (by omega:(k:Int)<=pn);have hNl:N<=1000:=by unfold Gr.eu at hN2;omega
    generalize Gr.gQ u pn x k=wl at *
    rw[<-hM];simp(disch:=first | omega | (simp only[Lx];omega))only[go_sem,simprocAttr,e1,acY,hx,hu,Gr.cN];refine aj hwy rfl rfl ?_;have eN:(((N:Int)+1)-1).toNat=N:=acB;have hw3:wl.getD N default=(u,(pn:Int)):=hw2;have q1:(FloatKind.f64.format.order (FloatKind.f64.nearest u) (FloatKind.f64.nearest u)==some Ordering.eq)=true:=by rw[Gr.xh ⟨u0,acB⟩ ⟨u0,acB⟩];simp
    have q2:(FloatKind.f64.format.order (FloatKind.f64.nearest (pn:Int)) (FloatKind.f64.nearest (pn:Int))==some Ordering.eq)=true:=by rw[Gr.xh ⟨acB,acB⟩ ⟨acB,acB⟩];simp
    simp(disch:=first | omega | (simp only[Lx];omega))only[go_sem,simprocAttr,e1,acY,hw1,hu,Gr.cN,eN,hw3,q1,q2];by_cases hMp:M.getD pn false=true
    ·have hMs:=YP hMp;rw[hMs]at hst;refine cW @lD hMl @np hMp ?_;exact hR5 (w+1) _ acB acB (.le (eY hst))
    ·have hMp':M.getD pn false=false:=by simpa using hMp
     have hcs:=count_set acB hMp';rw[<-hst]at hcs;have hcl:M.count true<=M.length:=List.count_le_length;simp(disch:=first | omega | (simp only[Lx];omega))only[go_sem,simprocAttr,lD,hMl,np,hMp',AQ,<-hst];exact hR5 (w+1) _ acB acB (.le (eY hcs))
   obtain rfl:w=row.length:=acB;rw[acF acB];simp(disch:=first | omega | (simp only[Lx];omega))only[go_sem,simprocAttr,acY];exact hR4 (k+1,markR Rr (fJ ps k)) _ (by simp only;omega) ⟨by simp only;omega,by simp only;omega,by simp only;rw[uk,hRl],hRf⟩ (.le vV)
  obtain rfl:k=i:=acB;rw[ae5,reachR]at hRf;subst hRf;have hll':(l.length:Int)=((Rr.count true:Nat):Int):=by rw[hll]
  have hbs:aB (fC Rr) 0 k=fC Rr:=by rw[<-hRl];exact J9 Rr
  refine cI hidl @bJ hll' ?_
  refine aJ hN (λw:Nat=>⟨[(0,.ro 1 (Gr.a8 ps)),(5,.ro 1 (pa.map Gr.cN)),(8,.ro 1 (aR ids)),(25,gb L m []),(27,.str (ids.getD q [])),(190,.ro 1 (aR ids)),(191,.int .i64 k),(192,.int .i64 q),(272,.ro 1 (fC Rr)),(273,.int .i64 k),(274,.int .i64 w)],[]⟩)
   (λw=>w<=k) (λw=>k-w) 0 (.bn 310207 (.le (lv hbs @AP))) (ac5 _) ?_
  rintro w R5 hw hR5;by_cases hwl:w<k;rotate_left
  ·obtain rfl:w=k:=acB;refine wW ?_;exact hR3 (q+1) _ acB acB (.le vV)
  have hb2:=hbf (ids.getD w []);have hwk:=hlk w hwl;have hbe:Ax (ids.getD w []) (.ok l)=.ab [.bool (decide (ids.getD w []∈l)),.int .i64 0]:=rfl;rw[hbe]at hb2
  cases hbv:Rr.getD w false with
  | true=>
   rw[decide_eq_true (hwk.1 hbv)]at hb2;simp(disch:=first | omega | (simp only[Lx];omega))only[go_sem,simprocAttr,hidl,bJ,hV,lD,hRl,np,hbv];refine aj hb2 rfl rfl ?_;refine wW ?_;refine gG ?_
   exact hR5 (w+1) _ acB acB (.le vV)
  | false=>
   rw[decide_eq_false (λh=>by rw[hwk.2 h]at hbv;cases hbv)]at hb2;simp(disch:=first | omega | (simp only[Lx];omega))only[go_sem,simprocAttr,hidl,bJ,hV,lD,hRl,np,hbv];refine aj hb2 rfl rfl ?_;refine wW ?_;refine gG ?_;exact hR5 (w+1) _ acB acB (.le vV)
end Go.Proofs.YtgghhaahnpbnmaaGreatDoor.Ls
