/- The proof, part 41 of 50. -/
import Derived.Test.YtkdjbebgdoohjaaGreatDoorHistoryOrderZM
import Derived.Test.YtkdjbebgdoohjaaGreatDoorHistoryOrderZN
import Derived.Shelf.Strings.Repeat
set_option linter.all false
namespace Go.Proofs.YtkdjbebgdoohjaaGreatDoor.Ls
open Eng
set_option maxRecDepth 10000
def mL (ps:List ba):Prop:=∀p∈ps,p.2.2.1.length<=1000/\ia (p.2.2.1.map (·.1))/\∀r∈p.2.2.1,cf r.1=true
theorem O4 {L:List Rw} (h:ia (L.map (·.1))):dX (kf L):=by
 unfold dX kf;unfold ia at h;rw[abZ]at h |-;exact h
theorem El (l:List Bs):az (aL l) 0 l.length=aL l:=by
 unfold az;rw[aae,ZK (by rw[bz];omega)]
open Eng
set_option maxRecDepth 10000
theorem Cb:∀a b:Bs,Op.bytesLess a b=decide (Lib.compareBytes a b = -1)
 | [],[]=>rfl
 | [],_::_=>rfl
 | _::_,[]=>rfl
 | x::r,y::t=>by
  have ih:=Cb r t;rw[Op.bytesLess,Lib.compareBytes,ih];by_cases h1:x<y
  ·simp[h1]
  ·by_cases h2:y<x
   ·have:¬x=y:=λe=>by subst e;exact h1 h2
    simp[h1,h2,this]
   ·have:x=y:=by
     simp only[aat]at h1 h2;exact UInt8.toNat.inj ZG
    simp[this]
theorem pZ {s:Bs} {n:Nat}:∀{k:Nat} {l:List Rw},rowsP s n k=.ok l->∀j,j<k->fR s n j=.ok (l.getD j eV)
 | 0,l,_,j,hj=>by omega
 | k+1,l,h,j,hj=>by
  unfold rowsP at h
  cases h1:rowsP s n k with
  | error e=>rw[h1]at h;cases h
  | ok l'=>
   have hl:=nQ h1;rw[h1]at h
   cases h2:fR s n k with
   | error e=>rw[h2]at h;cases h
   | ok r=>
    rw[h2]at h;cases h;rcases aaO.1 hj with hjk | rfl
    ·rw[pZ h1 j hjk,ZH,ZH,List.getElem?_append_left ZG]
    ·rw[h2,ZH,List.getElem?_append_right ZG,hl,abS];rfl
theorem ta {s:Bs} {n j:Nat} {r:Rw} (h:fR s n j=.ok r):¬jy s j/\r.1=Sh.bw (fw s j)/\r.2.1<=1099511627776:=by
 unfold fR at h;split at h
 ·cases h
 ·rename_i hb;split at h
  ·cases h
  ·split at h
   ·cases h
   ·cases h;exact⟨hb,rfl,by simp only;omega⟩
theorem C3:∀{l:List Bs},(∀i,i+1<l.length->Lib.compareBytes (l.getD i []) (l.getD (i+1) [])<0)->ia l
 | [],_=>.nil
 | [x],_=>abE _ _
 | x::y::r,h=>by
  have ih:=C3 (l:=y::r) (λi hi=>by simpa using h (i+1) (by simpa using hi));have h0:Lib.compareBytes x y<0:=by simpa using h 0 (by simp)
  refine Z2.2 ⟨λz hz=>?_,ih⟩;rcases ZW.1 hz with rfl | hz;exact h0
  ·have:=(Z2.1 ih).1 z hz;exact uO h0 ZG
theorem Ch (l:List Rw) (i:Nat):(l.map (·.1)).getD i []=(l.getD i eV).1:=by
 rw[ZH,ZH,List.getElem?_map];cases l[i]?<;>rfl
theorem xc {s:Bs} {x:List Rw×Bs} (h:cL s=.ok x):x.1.length<=1000/\ia (x.1.map (·.1))/\∀r∈x.1,cf r.1=true:=by
 unfold cL at h;simp only at h;split at h
 ·cases h
 rename_i h0;split at h
 ·cases h
 split at h
 ·cases h
 split at h
 ·cases h
 rename_i hn;split at h
 ·cases h
 rename_i hlen;split at h
 ·cases h
 split at h
 ·cases h
 rename_i l hl;split at h
 ·cases h
 cases h;have hll:=nQ hl;have hraw:∀j,j<bm s 256->(fw s j).length=20:=λj hj=>dF ZG;refine⟨by simp only;omega,C3 (λi hi=>?_),λr hr=>?_⟩
 ·simp only[Z3]at hi;rw[Ch,Ch];obtain⟨_,e1,_⟩:=ta (pZ hl i ZG);obtain⟨b2,e2,_⟩:=ta (pZ hl (i+1) ZG);rw[e1,e2]
  have h1:Op.bytesLess (fw s i) (fw s (i+1))=true:=by
   have:aU s (1012+20*(i+1)) 20=fw s i:=by unfold fw;rw[show 1012+20*(i+1)=1032+20*i by omega]
   cases hb:Op.bytesLess (fw s i) (fw s (i+1))with
   | true=>rfl
   | false=>exact absurd (.inl ⟨ZG,by rw[this];exact hb⟩) b2
  rw[Cb,decide_eq_true_eq]at h1;exact Bv _ _ ZG (by rw[hraw i ZG,hraw (i+1) ZG])
 ·obtain⟨j,hj,rfl⟩:=aa7.1 hr;obtain⟨_,e1,_⟩:=ta (pZ hl j (by simp only at hj;omega));simp only at hj e1;rw[ZH,List.getElem?_eq_getElem hj]at e1;simp only[abu]at e1;rw[e1];exact M4 (hraw j ZG)
theorem C2 {L:List Fi} {U:List Bs}:∀{k:Nat} {ps:List ba},packsP L U k=.ok ps->mL ps
 | 0,ps,h=>by
  unfold packsP at h;cases h
  intro p hp;simp at hp
 | k+1,ps,h=>by
  unfold packsP at h
  cases h1:packsP L U k with
  | error e=>rw[h1]at h;cases h
  | ok l'=>
   have ih:=C2 h1;rw[h1]at h
   cases h2:stepP L (U.getD k [])with
   | error e=>rw[h2]at h;cases h
   | ok r=>
    rw[h2]at h
    cases r with
    | none=>cases h;exact ih
    | some r=>
     cases h;intro p hp;rcases aax.1 hp with hp | hp;exact ih p hp
     ·rw[Z9]at hp;subst hp;unfold stepP at h2;split at h2
      ·cases h2
      ·split at h2
       ·cases h2
       ·rename_i x hx;split at h2
        ·cases h2
        ·split at h2
         ·cases h2
         ·split at h2
          ·cases h2
          ·split at h2
           ·cases h2
           ·cases h2;exact xc hx
theorem CO {L:List Fi} {ps:List ba} (h:gj L=.ok ps):mL ps/\ps.length<=L.length:=by
 have h1:=sK h;have h2:=qn dy L;exact⟨C2 h,ZG⟩
theorem CN {L:List Fi} {e:Int} (h:gj L=.error e):e≠0:=by
 unfold gj at h;generalize (cY dy L).length=k at h
 induction k with
 | zero=>unfold packsP at h;cases h
 | succ k ih=>
  unfold packsP at h
  cases h1:packsP L (cY dy L) k with
  | error e'=>
   rw[h1]at h;cases h
   exact ih h1
  | ok l'=>
   rw[h1]at h
   cases h2:stepP L ((cY dy L).getD k [])with
   | ok r=>
    rw[h2]at h
    cases r<;>cases h
   | error e'=>
    rw[h2]at h;cases h;unfold stepP at h2;split at h2
    ·cases h2
    ·split at h2
     ·rename_i hx;cases h2;exact w9 hx
     ·split at h2
      ·cases h2;decide
      ·split at h2
       ·rename_i hc;cases h2;exact hc
       ·split at h2
        ·cases h2;decide
        ·split at h2
         ·cases h2;decide
         ·cases h2
theorem Lg (t:Bs) (n:Nat) (ht:t.length<=30000000000000000000) (hn:n<=100000):aw Tryz.prog 19 [.str t,.int .i64 n] (.str (t.take n)):=by
 refine Cod.Lh (λE R hN hR=>?_);by_cases h:n<t.length
 ·have hi:(n:Int)<(t.length:Int):=ZG;refine ah hi ?_;exact hR.ro ⟨rfl,rfl⟩
 ·rw[ZK ZG]at hR;have hi:¬(n:Int)<(t.length:Int):=ZG;refine ah hi ?_;exact hR.ro ⟨rfl,rfl⟩
theorem Le (fs:List Fi) (n:Nat) (hl:fs.length*32<=140737488355328) (hn:n<=1000):Eng.Spec Tryz.prog 18 [] [.ro 2 (aQ fs),.int .i64 n] (λh r ar=>h=[(216012,.arr 2 (aQ (fs.take n)))]/\r=.sl 216012 0 (fs.take n).length/\ar=[.undef,.undef]):=by
 refine Cod.Lf (λE R hN hR=>?_);by_cases h:n<fs.length
 ·have hi:(n:Int)<(fs.length:Int):=ZG;have htl:(fs.take n).length=n:=by rw[ZL];omega
  rw[htl]at hR;refine cq @bD hi @Lj htl ?_;exact⟨⟨lW,ZG⟩,hR.wk (h':=[(216012,.arr 2 (aQ (fs.take n)))]) (r':=.sl 216012 0 n) (ar':=[.undef,.undef]) rfl (.le vV) ⟨rfl,rfl,rfl⟩⟩
 ·have hi:¬(n:Int)<(fs.length:Int):=ZG;rw[ZK ZG]at hR;refine aE @bD hi ?_;exact⟨⟨lW,ZG⟩,hR.wk (h':=[(216012,.arr 2 (aQ fs))]) (r':=.sl 216012 0 fs.length) (ar':=[.undef,.undef]) rfl (.le vV) ⟨rfl,rfl,rfl⟩⟩
theorem Lk {A D:List Fi} {g x:Fi}:(aQ (A++g::D)).set A.length (.agg [.str x.1,.str x.2])=aQ (A++[x]++D):=by
 unfold aQ;rw[aaq,acj _ _ (by rw[Z3];exact ZM _),Z3,abS];simp[dH]
def ig (f:Fi):Fi:=(f.1,f.2.take 3000)
def iE (fs:List Fi) (n:Nat):List Fi:=(fs.take n).map ig
theorem D4 (fs:List Fi) (n:Nat) (hl:fs.length*32<=140737488355328) (hn:n<=1000) (hd:∀f∈fs,f.2.length<=140737488351232):Eng.Spec Tryz.prog 10 [] [.ro 2 (aQ fs),.int .i64 n] (λh r ar=>h=[(216012,.arr 2 (aQ (iE fs n)))]/\r=.sl 216012 0 (iE fs n).length/\ar=[.undef,.undef]):=by
 refine Cod.Wb (λE R hN hR=>?_);refine wW ?_;refine aW [] (Le fs n hl hn) trivial (λ_=>rfl) ?_;rintro h' v ar ⟨rfl,rfl,rfl⟩;unfold iE at hR;have hdg:∀f∈fs.take n,f.2.length<=140737488351232:=λf hf=>hd f (abr hf);have hgl:(fs.take n).length<=1000:=by rw[ZL];omega
 obtain⟨G,hG⟩:∃G,G=fs.take n:=⟨_,rfl⟩;rw[<-hG]at hR hdg hgl;simp(disch:=first | omega | (simp only[Lx];omega))only[go_sem,simprocAttr,lW,bD,rv,<-hG]
 refine aP hN (λk:Nat=>⟨[(5,.sl 216012 0 G.length),(11,.int .i64 G.length),(12,.int .i64 k)],[(216012,.arr 2 (aQ ((G.take k).map ig++G.drop k)))]⟩) (λk=>k<=G.length) (λk=>G.length-k) 0 (.le (by simp(disch:=first | omega | (simp only[Lx];omega))only[go_sem,simprocAttr,aaU,aae,abk,aac])) (Z7 _) ?_
 rintro k R1 hk hR1;by_cases hlt:k<G.length
 ·have hL:((G.take k).map ig++G.drop k).length=G.length:=by rw[ZJ,Z3,ZL,ZN];omega
  have hg:((G.take k).map ig++G.drop k).getD k aJ=G.getD k aJ:=by
   rw[ZH,List.getElem?_append_right (by rw[Z3,ZL];omega),Z3,ZL,aag hk,abS,List.getElem?_drop,aaz,<-ZH]
  have hm:=hdg _ (eK aJ hlt);have hf:=Lg (G.getD k aJ).2 3000 ZG (by decide);rw[show((3000:Nat):Int)=3000 from rfl]at hf;refine cq @bD hL @fN hg ?_;refine an hf rfl rfl ?_;refine cq @bD hL @fN hg ?_
  have hdr:G.drop k=G.getD k aJ::G.drop (k+1):=by
   rw[ZH,List.getElem?_eq_getElem hlt];exact aak hlt
  have hal:((G.take k).map ig).length=k:=by rw[Z3,ZL];omega
  have hst:(aQ ((G.take k).map ig++G.drop k)).set k (.agg [.str (G.getD k aJ).1,.str ((G.getD k aJ).2.take 3000)])=aQ ((G.take k).map ig++[ig (G.getD k aJ)]++G.drop (k+1)):=by
   have h:=Lk (A:=(G.take k).map ig) (D:=G.drop (k+1)) (g:=G.getD k aJ) (x:=ig (G.getD k aJ));rw[hal,<-hdr]at h;exact h
  refine hR1 (k+1) _ ZG ZG (.le ?_);rw[hst,fb aJ G hlt,aaq];simp(disch:=first | omega | (simp only[Lx];omega))only[go_sem,simprocAttr,aaj,abk]
 ·obtain rfl:k=G.length:=ZG;rw[Z3]at hR;simp(disch:=first | omega | (simp only[Lx];omega))only[go_sem,simprocAttr,bD,aaw]
  exact hR.wk (h':=[(216012,.arr 2 (aQ (G.map ig)))]) (r':=.sl 216012 0 G.length) (ar':=[.undef,.undef]) rfl (.le vV) ⟨rfl,rfl,rfl⟩
theorem Wc (fs:List Fi) (n:Nat):(iE fs n).length<=n:=by unfold iE;rw[Z3,ZL];omega
theorem Wd {fs:List Fi} {n:Nat} {f:Fi} (h:f∈iE fs n):f.2.length<=3000/\∃g∈fs,f.1=g.1:=by
 obtain⟨g,hg,rfl⟩:=aaL.1 h;refine⟨?_,g,abr hg,rfl⟩;unfold ig;rw[ZL];omega
theorem AG (L:List Fi):az (aQ L) 0 L.length=aQ L:=by
 unfold az;rw[aae,ZK (by rw[bD];omega)]
def qy (fs:List Fi):Prop:=fs.length*32<=140737488351232/\∀f∈fs,f.1.length<=140737488351232/\f.2.length<=140737488351232
theorem RF:jY []:=⟨λf h=>(by simp at h),.nil,λf h=>(by simp at h)⟩
theorem SE:gj []=.ok []:=by
 unfold gj
 show packsP [] [] 0=_
 rfl
end Go.Proofs.YtkdjbebgdoohjaaGreatDoor.Ls
namespace Go.Proofs.YtkdjbebgdoohjaaGreatDoor.Ls
open Eng
set_option maxRecDepth 10000
section
variable {l:List Bs} (hl:∀x∈l,cf x=true) (hs:ia l)
include hl
include hs
end
open Eng
set_option maxRecDepth 10000
theorem s9 (t:Bs) (ht:t.length<=8):aw Tryz.prog 56 [.str t] (.int .u64 (bE t:Nat)):=by
 refine Cod.Dy (λE R hN hR=>?_);refine wW ?_;refine aP hN (λk:Nat=>⟨[(0,.str t),(3,.int .u64 (bE (t.take k):Nat)),(4,.int .i64 k)],[]⟩) (λk=>k<=t.length) (λk=>t.length-k) 0 (.le (by simp(disch:=omega)only[go_sem,simprocAttr];simp[bE])) ZG ?_;rintro k R1 hk hR1;by_cases hlt:k<t.length
 ·have hct:=uF t hlt;have hxl:bE (t.take k)<72057594037927936:=ZV (qO t k hk) (ZY (n:=256) (by decide) (by omega:k<=7));have hbl:=(t.getD k 0).toNat_lt;generalize bE (t.take k)=x at *
  refine wW ?_;exact hR1 (k+1) _ ZG ZG (.le (cU hct))
 ·obtain rfl:k=t.length:=ZG;rw[ZK (ZM _)];refine wW ?_;exact hR.ro ⟨rfl,rfl⟩
theorem oW {s:Bs} {o n a m:Nat} (h:a+m<=n):aU (aU s o n) a m=aU s (o+a) m:=by
 unfold aU;rw[acm,aa3,List.take_take,aag ZG]
def dG (s:Bs) (k:Nat):List AV:=(List.range k).map λi=>.int .u64 (bm s (i+1):Nat)
theorem ru (s:Bs) (k:Nat):(dG s k).length=k:=by simp[dG]
theorem La (s:Bs) (k:Nat):dG s k++[.int .u64 (bm s (k+1):Nat)]=dG s (k+1):=by simp[dG,abl]
theorem ns {s:Bs} {k:Nat}:(dG s k).all aD=true:=by simp[dG,aD,cellsOf,isCell]
theorem K9 (s:Bs) (k:Nat):az (dG s k) 0 k=dG s k:=by
 unfold az;rw[aae,ZK (by rw[ru];omega)]
theorem sw {s:Bs} {k i:Nat} (h:i<k):nth (dG s k) i=.int .u64 (bm s (i+1):Nat):=by
 simp[nth,dG,h]
def parseD:Except Int (List Rw×Bs)->AV
 | .error e=>.ab [.aj,.str [],.int .i64 e]
 | .ok p=>.ab [.ro 3 (cR p.1),.str p.2,.int .i64 0]
set_option maxHeartbeats 4000000 in
theorem Ua (s:Bs) (hs:s.length<=100000):aw Tryz.prog 28 [.str s] (parseD (cL s)):=by
 refine Cod.Ub (λE R hN hR=>?_);have bad:∀{h} (e:Int),cL s=.error e->R h (.ab [.aj,.str [],.int .i64 e]) [.undef]:=λe he=>hR.ro ⟨rfl,by rw[he];rfl⟩;by_cases h0:s.length<1072
 ·refine wW ?_;exact bad 6 (by unfold cL;rw[if_pos h0])
 have hlit:bytesOf [AV.int .u8 255,AV.int .u8 116,AV.int .u8 79,AV.int .u8 99,AV.int .u8 0,AV.int .u8 0,AV.int .u8 0,AV.int .u8 2]=[255,116,79,99,0,0,0,2]:=rfl;have hall:ib [AV.int .u8 255,AV.int .u8 116,AV.int .u8 79,AV.int .u8 99,AV.int .u8 0,AV.int .u8 0,AV.int .u8 0,AV.int .u8 2]=true:=rfl;by_cases h1:s.take 8=[255,116,79,99,0,0,0,2];rotate_left
 ·refine bU hlit hall h1 ?_;exact bad 3 (by unfold cL;rw[if_neg h0,if_pos h1])
 refine bU h1 hlit hall ?_;refine aP hN (λk:Nat=>⟨[(0,.str s),(5,.sl 273027 0 k),(6,.int .i64 k)],[(273027,.arr 1 (dG s k))]⟩) (λk=>k<=256/\∀i,i<k->bm s i<=bm s (i+1)) (λk=>256-k) 0 (.le (by simp(disch:=omega)only[go_sem,simprocAttr,show dG s 0=[]from rfl])) ⟨ZG,λi h=>by omega⟩ ?_;rintro k R1 ⟨hk,hmono⟩ hR1;by_cases hlt:k<256
 ·have e1:((8:Int)+4*(k:Int)).toNat=8+4*k:=ZG;have e2:((12:Int)+4*(k:Int)).toNat=12+4*k:=ZG;have e3:12+4*k-(8+4*k)=4:=ZG;have hb:=s9 (aU s (8+4*k) 4) (by rw[dF ZG];omega)
  have hfe:bE (aU s (8+4*k) 4)=bm s (k+1):=by
   unfold bm;rw[if_neg ZG,show 4+4*(k+1)=8+4*k by omega]
  rw[hfe]at hb;have hl:=kV s (k+1);have hl2:=kV s k;have hst:=La s k;have hfl:=ru s k;have hsb:=K9 s k;refine cq e1 e2 e3 @cB ?_;refine an hb rfl rfl ?_;refine wW ?_;have hm1:((k:Int)-1).toNat=k-1:=ZG
  have nx:bm s k<=bm s (k+1)->∀st',Wk st' ⟨[(0,.str s),(5,.sl 273027 0 (k+1)),(6,.int .i64 ((k+1:Nat):Int))],[(273027,.arr 1 (dG s (k+1)))]⟩->R1.ap st':=λhm st' hw=>
   hR1 (k+1) _ ZG ⟨ZG,λi h=>by
    rcases aaO.1 h with h | rfl;exact hmono i h
    ·exact hm⟩ hw
  by_cases hk0:0<k
  ·have hi0:(0:Int)<(k:Int):=ZG;have hnt:nth (dG s k) (k-1)=.int .u64 (bm s k:Nat):=by rw[sw ZG,show k-1+1=k by omega]
   by_cases hm:bm s k<=bm s (k+1)
   ·have hi:¬((bm s (k+1):Nat):Int)<(bm s k:Nat):=ZG;simp(disch:=omega)only[go_sem,simprocAttr,hi0,hm1,hnt,hi,hfl,hsb,hst,ns]
    (repeat(first | refine cJ ?_ | refine cH ?_ | refine cI ?_)<;>simp(disch:=omega)only[go_sem,simprocAttr,hi0,hm1,hnt,hi,hfl,hsb,hst,ns])
    exact nx hm _ (.le vV)
   ·have hi:((bm s (k+1):Nat):Int)<(bm s k:Nat):=ZG;simp(disch:=omega)only[go_sem,simprocAttr,hi0,hm1,hnt,hi,hfl,hsb,hst,ns]
    (repeat(first | refine cJ ?_ | refine cH ?_ | refine cI ?_)<;>simp(disch:=omega)only[go_sem,simprocAttr,hi0,hm1,hnt,hi,hfl,hsb,hst,ns])
    exact bad 3 (by unfold cL;rw[if_neg h0,if_neg (λh=>h h1),if_pos (λh=>hm (h k hlt))])
  ·obtain rfl:k=0:=ZG;have hm:bm s 0<=bm s (0+1):=by unfold bm;rw[if_pos rfl];exact Z7 _
   refine cq hfl hsb hst @ns ?_;refine kX hfl hsb hst @ns ?_;exact nx hm _ (.le vV)
 ·obtain rfl:k=256:=ZG;have hok:vn s:=λi h=>hmono i h;have hl:=kV s 256;have hfl:=ru s 256;have hg:nth (dG s 256) 255=.int .u64 (bm s 256:Nat):=sw ZG;obtain⟨n,hn⟩:∃n,n=bm s 256:=⟨_,rfl⟩;rw[<-hn]at hl hg
  have hb0:cL s=(if 1000<n then .error 2
   else if s.length<1072+28*n then .error 6
   else if bK s n%8≠0 then .error 3
   else match rowsP s n n with
    | .error e=>.error e
    | .ok l=>if Sh.cS (s.take (s.length-20))≠s.drop (s.length-20)then .error 5 else .ok (l,Sh.bw (aU s (s.length-40) 20))):=by
   unfold cL;rw[if_neg h0,if_neg (λh=>h h1),if_neg (λh=>h hok),<-hn];rfl
  refine aE hfl hg ?_;by_cases g1:1000<n
  ·have hi:(1000:Int)<(n:Int):=ZG;refine ah hi ?_;exact bad 2 (by rw[hb0,if_pos g1])
  have hi:¬(1000:Int)<(n:Int):=ZG;have hw:IntKind.i64.wrap (n:Int)=(n:Int):=eF ZG;rw[if_neg g1]at hb0;refine cq hi hfl hg hw ?_;by_cases g2:s.length<1072+28*n
  ·have hi:(s.length:Int)<1072+28*(n:Int):=ZG;refine ah hi ?_;exact bad 6 (by rw[hb0,if_pos g2])
  have hi:¬(s.length:Int)<1072+28*(n:Int):=ZG;rw[if_neg g2]at hb0;have efn:(s.length:Int)-1072-28*(n:Int)=((bK s n:Nat):Int):=by unfold bK;omega
  have etm:((bK s n:Nat):Int).tmod 8=((bK s n%8:Nat):Int):=by rw[mA ZG];omega
  refine bU hi efn etm ?_;by_cases g3:bK s n%8=0;rotate_left
  ·have hi:¬((bK s n%8:Nat):Int)=0:=ZG;refine ah hi ?_;exact bad 3 (by rw[hb0,if_pos g3])
  have hi:((bK s n%8:Nat):Int)=0:=ZG;rw[if_neg (λh=>h g3)]at hb0;have a1:((1032:Int)+20*(n:Int)).toNat=1032+20*n:=ZG;have a2:((1032:Int)+24*(n:Int)).toNat=1032+24*n:=ZG;have a3:((1032:Int)+28*(n:Int)).toNat=1032+28*n:=ZG;have a4:1032+20*n-1032=20*n:=ZG;have a5:1032+24*n-(1032+20*n)=4*n:=ZG;have a6:1032+28*n-(1032+24*n)=4*n:=ZG;have a7:((s.length:Int)-40).toNat-(1032+28*n)=bK s n:=by unfold bK;omega
  simp(disch:=omega)only[go_sem,simprocAttr,hi,a1,a2,a3,a4,a5,a6,a7,cB];have hcut:∀o m a,o+m<=s.length->a+20<=m->aU (aU s o m) a 20=aU s (o+a) 20:=λo m a _ h=>oW h;obtain⟨Nm,hNm⟩:∃x,x=aU s 1032 (20*n):=⟨_,rfl⟩;obtain⟨Cr,hCr⟩:∃x,x=aU s (1032+20*n) (4*n):=⟨_,rfl⟩;obtain⟨Nr,hNr⟩:∃x,x=aU s (1032+24*n) (4*n):=⟨_,rfl⟩;obtain⟨F,hF⟩:∃F,F=aU s (1032+28*n) (bK s n):=⟨_,rfl⟩;have lNm:Nm.length=20*n:=by rw[hNm];exact dF ZG
  have lCr:Cr.length=4*n:=by rw[hCr];exact dF ZG
  have lNr:Nr.length=4*n:=by rw[hNr];exact dF ZG
  have efl:F.length=bK s n:=by rw[hF];exact dF (by unfold bK;omega)
  rw[<-hNm,<-hCr,<-hNr,<-hF];have hn1:n<=1000:=ZG
  refine aP hN (λp:Nat×List Rw=>⟨[(0,.str s),(5,.sl 273027 0 256),(8,.int .i64 n),(9,.str Nm),(10,.str Cr),(11,.str Nr),(12,.str F),(13,.sl 273107 0 p.2.length),(14,.int .i64 p.1)],[(273107,.arr 3 (cR p.2)),(273027,.arr 1 (dG s 256))]⟩)
   (λp=>p.1<=n/\rowsP s n p.1=.ok p.2) (λp=>n-p.1) (0,[]) (.le (cU @DC)) ⟨ZG,rfl⟩ ?_
  rintro⟨k,l⟩ R2 ⟨hk2,hrows⟩ hR2;simp only at hk2 hrows;have hll:=nQ hrows;by_cases hlt2:k<n
  ·have hrl:(fw s k).length=20:=dF ZG;have c1:((20:Int)*(k:Int)).toNat=20*k:=ZG;have c2:((20:Int)*(k:Int)+20).toNat-20*k=20:=ZG;have hrw:aU Nm (20*k) 20=fw s k:=by rw[hNm,oW ZG];rfl
   obtain⟨raw,hraw⟩:∃raw,raw=fw s k:=⟨_,rfl⟩;have hch:(raw.getD 0 0).toNat=mT s k:=by rw[hraw];rfl
   rw[<-hraw]at hrl hrw;have hcb:=(raw.getD 0 0).toNat_lt;obtain⟨c,hc⟩:∃c,c=mT s k:=⟨_,rfl⟩;rw[hch,<-hc]at hcb;rw[<-hc]at hch
   have badr:∀{h} (e:Int),fR s n k=.error e->R h (.ab [.aj,.str [],.int .i64 e]) [.undef]:=λe he=>bad e (by
    have h1:rowsP s n (k+1)=.error e:=by unfold rowsP;rw[hrows];simp only[he]
    rw[hb0,xF (by omega:k+1<=n) h1])
   have bad3:∀{h},jy s k->R h (.ab [.aj,.str [],.int .i64 3]) [.undef]:=λh=>badr 3 (by unfold fR;rw[if_pos h]);have c3:((20:Int)*(k:Int)-20).toNat=20*k-20:=ZG
   have c4:0<k->aU Nm (20*k-20) (20*k-(20*k-20))=aU s (1012+20*k) 20:=λh=>by
    rw[show 20*k-(20*k-20)=20 by omega,hNm,oW ZG,show 1032+(20*k-20)=1012+20*k by omega]
   obtain⟨prev,hprev⟩:∃prev,prev=aU s (1012+20*k) 20:=⟨_,rfl⟩;rw[<-hprev]at c4;obtain⟨fc,hfc⟩:∃fc,fc=bm s c:=⟨_,rfl⟩;obtain⟨fd,hfd⟩:∃fd,fd=bm s (c+1):=⟨_,rfl⟩;have hfcl:=kV s c;have hfdl:=kV s (c+1);have hf1:nth (dG s 256) c=.int .u64 (fd:Nat):=by rw[sw ZG,<-hfd]
   have hf0:0<c->nth (dG s 256) (c-1)=.int .u64 (fc:Nat):=λh=>by rw[sw ZG,show c-1+1=c by omega,<-hfc]
   have hfz:c=0->fc=0:=λh=>by rw[hfc,h];unfold bm;rw[if_pos rfl]
   rw[<-hfc]at hfcl;rw[<-hfd]at hfdl
   have hbr:jy s k↔(0<k/\Op.bytesLess prev raw=false)\/k<fc\/fd<=k:=by
    unfold jy;rw[<-hc,<-hraw,<-hprev,<-hfc,<-hfd]
   have cw:IntKind.i64.wrap (c:Int)=(c:Int):=eF ZG;have kw:IntKind.u64.wrap (k:Int)=(k:Int):=wrap_u64 ZG;have cm:((c:Int)-1).toNat=c-1:=ZG;refine cq c1 c2 @cB hrw ?_;refine fU (y:=Cod.T7) hN (λ_:Unit=>⟨[(0,.str s),(5,.sl 273027 0 256),(8,.int .i64 n),(9,.str Nm),(10,.str Cr),(11,.str Nr),(12,.str F),(13,.sl 273107 0 l.length),(14,.int .i64 k),(15,.str raw)],[(273107,.arr 3 (cR l)),(273027,.arr 1 (dG s 256))]⟩) (λ_=>¬(0<k/\Op.bytesLess prev raw=false)) (λR3 hR3=>?_) (λ_ hA=>?_)
   ·by_cases hk0:0<k
    ·have hi:(0:Int)<(k:Int):=ZG;have c4:=c4 hk0
     cases hA2:Op.bytesLess prev raw with
     | false=>
      simp(disch:=omega)only[go_sem,simprocAttr,hi,c1,c3,cB,c4,hA2,aan,aap]
      (repeat(first | refine cJ ?_ | refine cH ?_ | refine cI ?_)<;>simp(disch:=omega)only[go_sem,simprocAttr,hi,c1,c3,cB,c4,hA2,aan,aap])
      exact bad3 (hbr.2 (.inl ⟨hk0,hA2⟩))
     | true=>
      simp(disch:=omega)only[go_sem,simprocAttr,hi,c1,c3,cB,c4,hA2,aan,aap]
      (repeat(first | refine cJ ?_ | refine cH ?_ | refine cI ?_)<;>simp(disch:=omega)only[go_sem,simprocAttr,hi,c1,c3,cB,c4,hA2,aan,aap])
      exact hR3 () _ (λh=>by rw[hA2]at h;cases h.2) (.le vV)
    ·have hi:¬(0:Int)<(k:Int):=ZG;refine ah hi ?_;refine bI hi ?_;exact hR3 () _ (λh=>hk0 h.1) (.le vV)
   have hfu:=ru s 256;refine aE hch cw ?_;refine fU (y:=Cod.T8) hN (λ_:Unit=>⟨[(0,.str s),(5,.sl 273027 0 256),(8,.int .i64 n),(9,.str Nm),(10,.str Cr),(11,.str Nr),(12,.str F),(13,.sl 273107 0 l.length),(14,.int .i64 k),(15,.str raw)],[(273107,.arr 3 (cR l)),(273027,.arr 1 (dG s 256))]⟩) (λ_=>¬jy s k) (λR3 hR3=>?_) (λ_ hnb=>?_)
   ·by_cases hC:fd<=k
    ·have hiC:(fd:Int)<=(k:Int):=ZG;refine cq kw hfu hf1 hiC ?_;refine kX kw hfu hf1 hiC ?_;exact bad3 (hbr.2 (.inr (.inr hC)))
    have hiC:¬(fd:Int)<=(k:Int):=ZG;by_cases hc0:0<c
    ·have hi:(0:Int)<(c:Int):=ZG;have hf0:=hf0 hc0;by_cases hB:k<fc
     ·have hiB:(k:Int)<(fc:Int):=ZG;simp(disch:=omega)only[go_sem,simprocAttr,kw,hfu,hf1,hiC,hi,cm,hf0,hiB]
      (repeat(first | refine cJ ?_ | refine cH ?_ | refine cI ?_)<;>simp(disch:=omega)only[go_sem,simprocAttr,kw,hfu,hf1,hiC,hi,cm,hf0,hiB])
      exact bad3 (hbr.2 (.inr (.inl hB)))
     ·have hiB:¬(k:Int)<(fc:Int):=ZG;simp(disch:=omega)only[go_sem,simprocAttr,kw,hfu,hf1,hiC,hi,cm,hf0,hiB]
      (repeat(first | refine cJ ?_ | refine cH ?_ | refine cI ?_)<;>simp(disch:=omega)only[go_sem,simprocAttr,kw,hfu,hf1,hiC,hi,cm,hf0,hiB])
      exact hR3 () _ (λh=>by
       rcases hbr.1 h with h | h | h;exact hA h;exact hB h
       ·exact hC h) (.le vV)
    ·have hi:¬(0:Int)<(c:Int):=ZG;have hz:=hfz ZG;refine cM kw hfu hf1 hiC hi ?_;refine l4 kw hfu hf1 hiC hi ?_
     exact hR3 () _ (λh=>by
      rcases hbr.1 h with h | h | h;exact hA h;omega
      ·exact hC h) (.le vV)
   have d1:((4:Int)*(k:Int)).toNat=4*k:=ZG;have d2:((4:Int)*(k:Int)+4).toNat-4*k=4:=ZG;have hNk:aU Nr (4*k) 4=aU s (1032+24*n+4*k) 4:=by rw[hNr,oW ZG]
   have hCk:aU Cr (4*k) 4=aU s (1032+20*n+4*k) 4:=by rw[hCr,oW ZG]
   have hbn:=s9 (aU s (1032+24*n+4*k) 4) (by rw[dF ZG];omega);have hbc:=s9 (aU s (1032+20*n+4*k) 4) (by rw[dF ZG];omega);have hnl:dJ s n k<4294967296:=kO (n:=4) (by rw[dF ZG];omega);have hcl:bE (aU s (1032+20*n+4*k) 4)<4294967296:=kO (n:=4) (by rw[dF ZG];omega);have aY:fO s n k=if 2147483648<=dJ s n k then bE (aU F (8*(dJ s n k-2147483648)) 8)else dJ s n k:=by unfold fO;rw[<-hF]
   have hrp:fR s n k=(if 2147483648<=dJ s n k/\bK s n/8<=dJ s n k-2147483648 then .error 3
    else if 1099511627776<fO s n k then .error 2
    else .ok (Sh.bw raw,fO s n k,bE (aU s (1032+20*n+4*k) 4))):=by unfold fR;rw[if_neg hnb,hraw]
   rw[show bE (aU s (1032+24*n+4*k) 4)=dJ s n k from rfl]at hbn;obtain⟨q,hq⟩:∃q,q=dJ s n k:=⟨_,rfl⟩;obtain⟨cr,hcr⟩:∃cr,cr=bE (aU s (1032+20*n+4*k) 4):=⟨_,rfl⟩;rw[<-hq]at hnl aY hrp hbn;rw[<-hcr]at hcl hrp hbc
   have hpb:fO s n k<18446744073709551616:=by
    rw[aY];split;exact ZV (kO (n:=8) (by unfold aU;rw[ZL];exact Nat.min_le_left ..)) (by decide);omega
   refine cq d1 d2 @cB hNk ?_;refine an hbn rfl rfl ?_;refine wW ?_;refine fU (y:=Cod.T9) hN (λ_:Unit=>⟨[(0,.str s),(5,.sl 273027 0 256),(8,.int .i64 n),(9,.str Nm),(10,.str Cr),(11,.str Nr),(12,.str F),(13,.sl 273107 0 l.length),(14,.int .i64 k),(15,.str raw),(17,.int .u64 (fO s n k:Nat))],[(273107,.arr 3 (cR l)),(273027,.arr 1 (dG s 256))]⟩) (λ_=>¬(2147483648<=q/\bK s n/8<=q-2147483648)) (λR3 hR3=>?_) (λ_ hng=>?_)
   ·by_cases hf:2147483648<=q
    ·have hif:(2147483648:Int)<=(q:Int):=ZG;rw[if_pos hf]at aY;obtain⟨j,hj⟩:∃j,j=q-2147483648:=⟨_,rfl⟩;have e1:((q:Int)-2147483648)=(j:Int):=ZG;have e2:IntKind.i64.wrap (j:Int)=(j:Int):=eF ZG;have e3:((bK s n:Nat):Int).tdiv 8=((bK s n/8:Nat):Int):=by rw[tJ ZG];omega
     refine bU hif e1 e2 ?_;by_cases hg:bK s n/8<=j
     ·have hig:((bK s n/8:Nat):Int)<=(j:Int):=ZG;refine bU efl e3 hig ?_;exact badr 3 (by rw[hrp,if_pos ⟨hf,ZG⟩])
     ·have hig:¬((bK s n/8:Nat):Int)<=(j:Int):=ZG;have h8:=s9 (aU F (8*j) 8) (by rw[dF ZG];omega);have d5:((8:Int)*(j:Int)).toNat=8*j:=ZG;have d6:((8:Int)*(j:Int)+8).toNat-8*j=8:=ZG;refine kH efl e3 hig d5 d6 @cB ?_;refine an h8 rfl rfl ?_;rw[<-hj]at aY;rw[<-aY];refine wW ?_;exact hR3 () _ (λh=>hg ZG) (.le vV)
    ·have hif:¬(2147483648:Int)<=(q:Int):=ZG;rw[if_neg hf]at aY;refine ah hif ?_;exact hR3 () _ (λh=>hf h.1) (.le (by rw[aY];exact vV))
   ·rw[if_neg hng]at hrp;obtain⟨pl,hpl2⟩:∃pl,pl=fO s n k:=⟨_,rfl⟩;rw[<-hpl2]at hrp;rw[<-hpl2];by_cases hbig:1099511627776<pl
    ·have hib:(1099511627776:Int)<(pl:Int):=ZG;refine ah hib ?_;exact badr 2 (by rw[hrp,if_pos hbig])
    ·have hib:¬(1099511627776:Int)<(pl:Int):=ZG;rw[if_neg hbig]at hrp;have hhex:=Sh.xz raw ZG;have pw:IntKind.i64.wrap (pl:Int)=(pl:Int):=eF ZG;have crw:IntKind.u32.wrap (cr:Int)=(cr:Int):=wrap_u32 ZG;have hrs:=tc l;refine kH hib pw d1 d2 @cB hCk ?_;refine an hhex rfl rfl ?_;refine wW ?_;refine an hbc rfl rfl ?_;refine bU crw hrs @fS ?_;rw[DB];refine⟨⟨xE,ZG⟩,hR2 (k+1,l++[(Sh.bw raw,pl,cr)]) _ (by simp only;omega) ⟨by simp only;omega,by simp only;unfold rowsP;rw[hrows];simp only[hrp]⟩ (.le (by rw[ZJ,ZQ];exact vV))⟩
  ·obtain rfl:k=n:=ZG;rw[hrows]at hb0;simp only at hb0;have m1:((s.length:Int)-20).toNat=s.length-20:=ZG;have m2:((s.length:Int)-40).toNat=s.length-40:=ZG;have m3:s.length-20-(s.length-40)=20:=ZG;have hsum:=Sh.DM (s.take (s.length-20)) (by rw[ZL];omega);have hhx:=Sh.xz (aU s (s.length-40) 20) (by rw[dF ZG];omega);refine ah m1 ?_;refine an hsum rfl rfl ?_;by_cases hsh:Sh.cS (s.take (s.length-20))=s.drop (s.length-20)
   ·have hb1:cL s=.ok (l,Sh.bw (aU s (s.length-40) 20)):=by rw[hb0,if_neg (λh=>h hsh)]
    rw[hb1]at hR;obtain⟨sm,hsm⟩:∃sm,sm=Sh.bw (aU s (s.length-40) 20):=⟨_,rfl⟩;rw[<-hsm]at hhx hR;refine cM hsh m1 m2 m3 @cB ?_;refine an hhx rfl rfl ?_;refine wW ?_;exact hR.wk (h':=[]) (r':=.ab [.ro 3 (cR l),.str sm,.int .i64 0]) (ar':=[.undef]) rfl (.bo 273107 (.le (tR @tc @fS @xE))) ⟨rfl,rfl⟩
   ·refine ah hsh ?_;exact bad 5 (by rw[hb0,if_pos hsh])
end Go.Proofs.YtkdjbebgdoohjaaGreatDoor.Ls
