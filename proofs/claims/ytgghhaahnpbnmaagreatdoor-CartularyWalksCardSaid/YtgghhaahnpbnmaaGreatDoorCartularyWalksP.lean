/- The proof, part 16 of 51. -/
import Derived.Test.YtgghhaahnpbnmaaGreatDoorCartularyWalksK
import Derived.Test.YtgghhaahnpbnmaaGreatDoorProg
set_option linter.all false
namespace Go.Proofs.YtgghhaahnpbnmaaGreatDoor.Cod
open Eng Eng.Kz
set_option maxRecDepth 100000
abbrev abC:=Kf.s1 310 Tryz.func3
open Eng Eng.Kz
set_option maxRecDepth 100000
abbrev Pg:=Kf.s2 1 Tryz.func19
abbrev Pz:=Kf.k2 2 Tryz.func18
abbrev O7:=Kf.s1 5 Tryz.func17
abbrev Pu:=Kf.s1 6 Tryz.func6
abbrev Pt:=Kf.s1 10 Tryz.func4
abbrev NZ:=Kf.s1 13 Tryz.func5
abbrev PM:=Kf.s2 15 Tryz.func13
abbrev Pf:=Kf.s1 16 Tryz.func40
end Go.Proofs.YtgghhaahnpbnmaaGreatDoor.Cod
namespace Go.Proofs.YtgghhaahnpbnmaaGreatDoor.Gr
open Eng
set_option maxRecDepth 10000
def findI:List Int->Nat->Int->Int
 | [],_,_=>-1
 | x::r,k,i=>if x=i then k else findI r (k+1) i
theorem xB (xs:List Int) (i:Int) (hl:xs.length<=1000000):aw Tryz.prog 19 [.ro 1 (ints xs),.int .i64 i] (.int .i64 (findI xs 0 i)):=by
 refine Cod.Pg (λE R hN hR=>?_);refine wW ?_;refine aJ hN (λk:Nat=>⟨[(1,.int .i64 i),(7,.ro 1 (ints xs)),(8,.int .i64 xs.length),(9,.int .i64 k)],[]⟩) (λk=>k<=xs.length/\findI (xs.drop k) k i=findI xs 0 i) (λk=>xs.length-k) 0 (.le vV) ⟨acB,rfl⟩ ?_;rintro k R2 ⟨hk,hf⟩ hR2;by_cases hlt:k<xs.length
 ·rw[drop_cons xs hlt,findI]at hf;refine wW ?_;refine kK (λhe=>?_) (λhe=>?_)<;>simp(disch:=omega)only[go_sem,simprocAttr]
  ·rw[if_pos he]at hf;exact hR.ro ⟨rfl,by rw[hf]⟩
  ·rw[if_neg he]at hf;refine hR2 (k+1) _ acB ⟨acB,hf⟩ (.le vV)
 ·obtain rfl:k=xs.length:=acB;rw[adL,findI]at hf;refine wW ?_;exact hR.ro ⟨rfl,by rw[hf]⟩
open Eng
set_option maxRecDepth 10000
def gM (xs:List Int) (i:Int):Int:=if findI xs 0 i<0 then(if findI xs 0 (-1)<0 then xs.length else findI xs 0 (-1))else findI xs 0 i
def gN (xs:List Int) (i:Int):List Int:=if findI xs 0 i<0/\findI xs 0 (-1)<0 then xs++[i]else xs.set (gM xs i).toNat i
abbrev lX (xs:List Int):HP:=[(2028,.arr 1 (ints xs)),(6008,.var [.sl 2028 0 xs.length])]
theorem ql:∀(xs:List Int) (k:Nat) (i:Int),findI xs k i = -1\/(k<=findI xs k i/\findI xs k i<k+xs.length)
 | [],k,i=>.inl rfl
 | x::r,k,i=>by
  have:=ql r (k+1) i;simp only[findI,acH];split<;>omega
theorem Gx (xs:List Int) (i:Int) (hl:xs.length<=100000):Eng.Spec Tryz.prog 18 (lX xs) [.aa 6008 0,.int .i64 i]
    (λh r ar=>h=lX (gN xs i)/\r=.int .i64 (gM xs i)/\ar=[.aa 6008 0,.int .i64 i]):=by
 refine Cod.Pz (λE R hN hR=>?_);have b1:=ql xs 0 i;have b2:=ql xs 0 (-1);simp(disch:=omega)only[go_sem,simprocAttr,lX];refine A9 (bs:=[.ro 1 (ints xs),.int .i64 i]) vV (xB xs i acB) rfl ?_;refine wW ?_;by_cases hc:findI xs 0 i<0
 ·have e0:findI xs 0 i = -1:=acB;refine aV @Eng.jn e0 ?_;refine A9 (bs:=[.ro 1 (ints xs),.int .i64 (-1)]) vV (xB xs (-1) acB) rfl ?_;refine wW ?_;refine dU hN ?_;by_cases hd:findI xs 0 (-1)<0
  ·refine ah @Eng.jn ?_;refine dU hN ?_;refine wW ?_;refine hR.le ?_ ⟨rfl,?_,rfl⟩
   ·simp(disch:=omega)only[go_sem,simprocAttr,lX,gN,gM,hc,hd]
   ·simp[gM,hc,hd]
  ·refine ah @Eng.jn ?_;refine dU hN ?_;refine wW ?_;refine hR.le ?_ ⟨rfl,?_,rfl⟩
   ·simp(disch:=omega)only[go_sem,simprocAttr,lX,gN,gM,hc,hd]
   ·simp[gM,hc,hd]
 ·refine ah @Eng.jn ?_;refine dU hN ?_;refine ah @Eng.jn ?_;refine dU hN ?_;refine wW ?_;refine hR.le ?_ ⟨rfl,?_,rfl⟩
  ·simp(disch:=omega)only[go_sem,simprocAttr,lX,gN,gM,hc]
  ·simp[gM,hc]
abbrev a8 (ps:List (List Int)):List AV:=ps.map λr=>AV.ro 1 (r.map (AV.int .i64))
def chkRow (n i:Int):List Int->List Int->Bool
 | _,[]=>true
 | s,x::r=>if x<=i\/n<=x then false else if x∈s then false else chkRow n i (s++[x]) r
def chkRows (n:Int):Nat->List (List Int)->Bool
 | _,[]=>true
 | i,l::r=>chkRow n i [] l&&chkRows n (i+1) r
def aY (ps:List (List Int)):Int:=if 200<ps.length then 2 else if chkRows ps.length 0 ps then 0 else 4
theorem getD_take {α:Type} (d:α) (l:List α) {m j:Nat} (h:m<j):(l.take j).getD m d=l.getD m d:=by
 simp[acC,List.getElem?_take,h]
theorem O6 (ps:List (List Int)) (h1:ps.length<=1000) (h2:∀r∈ps,r.length<=1000):aw Tryz.prog 17 [.ro 1 (a8 ps)] (.int .i64 (aY ps)):=by
 refine Cod.O7 (λE R hN hR=>?_);by_cases hb:200<ps.length
 ·refine wW ?_;exact hR.ro ⟨rfl,by simp[aY,hb]⟩
 have hP:aY ps=if chkRows ps.length 0 ps then 0 else 4:=by simp[aY,hb]
 refine wW ?_;refine aJ hN (λk:Nat=>⟨[(0,.ro 1 (a8 ps)),(12,.ro 1 (a8 ps)),(13,.int .i64 ps.length),(14,.int .i64 k)],[]⟩) (λk=>k<=ps.length/\chkRows ps.length k (ps.drop k)=chkRows ps.length 0 ps) (λk=>ps.length-k) 0 (.le vV) ⟨acB,rfl⟩ ?_;rintro k R1 ⟨hk,hc⟩ hR1;by_cases hlt:k<ps.length
 ·rw[od [] ps hlt,chkRows]at hc;have hrl:=h2 _ (qu [] ps hlt);obtain⟨l,hl⟩:∃l,l=ps.getD k []:=⟨_,rfl⟩;rw[<-hl]at hc hrl;simp(disch:=omega)only[go_sem,simprocAttr,<-hl];refine aJ hN (λj:Nat=>⟨[(0,.ro 1 (a8 ps)),(3,.int .i64 k),(4,.ro 1 (ints l)),(12,.ro 1 (a8 ps)),(13,.int .i64 ps.length),(14,.int .i64 k),(19,.ro 1 (ints l)),(20,.int .i64 l.length),(21,.int .i64 j)],[]⟩) (λj=>j<=l.length/\chkRow ps.length k (l.take j) (l.drop j)=chkRow ps.length k [] l) (λj=>l.length-j) 0 (.le vV) ⟨acB,by simp⟩ ?_;rintro j R2 ⟨hj,hcj⟩ hR2;by_cases hjl:j<l.length
  ·rw[od 0 l hjl,chkRow]at hcj;obtain⟨x,hx⟩:∃x,x=l.getD j 0:=⟨_,rfl⟩;rw[<-hx]at hcj;simp(disch:=omega)only[go_sem,simprocAttr,<-hx];refine gG ?_;refine kK (λhe=>?_) (λhe=>?_)
   ·rw[if_pos he]at hcj;rw[<-hcj]at hc;refine wW ?_;exact hR.ro ⟨rfl,by rw[hP,<-hc];rfl⟩
   ·rw[if_neg he]at hcj;have htl:(l.take j).length=j:=by simp;omega
    simp(disch:=omega)only[go_sem,simprocAttr,<-hx];refine aJ hN (λm:Nat=>⟨[(0,.ro 1 (a8 ps)),(3,.int .i64 k),(4,.ro 1 (ints l)),(6,.int .i64 x),(12,.ro 1 (a8 ps)),(13,.int .i64 ps.length),(14,.int .i64 k),(19,.ro 1 (ints l)),(20,.int .i64 l.length),(21,.int .i64 j),(37,.ro 1 (ints (l.take j))),(38,.int .i64 j),(39,.int .i64 m)],[]⟩) (λm=>m<=j/\x∉(l.take j).take m) (λm=>j-m) 0 (.le vV) ⟨acB,by simp⟩ ?_;rintro m R3 ⟨hm,hni⟩ hR3;by_cases hmj:m<j
    ·refine wW ?_;refine kK (λhq=>?_) (λhq=>?_)
     ·have:x∈l.take j:=by rw[hq];exact qu 0 _ acB
      rw[if_pos this]at hcj;rw[<-hcj]at hc;refine wW ?_;exact hR.ro ⟨rfl,by rw[hP,<-hc];rfl⟩
     ·refine wW ?_;refine hR3 (m+1) _ acB ⟨acB,?_⟩ (.le vV);rw[vm 0 _ acB];simp only[adh,ac0,not_or];exact⟨hni,hq⟩
    ·obtain rfl:m=j:=acB;have hni':x∉l.take m:=by rwa[acF acB]at hni
     rw[if_neg hni',hx,<-vm 0 l hjl]at hcj;refine wW ?_;exact hR2 (m+1) _ acB ⟨acB,hcj⟩ (.le vV)
  ·obtain rfl:j=l.length:=acB;rw[adL,chkRow]at hcj;rw[<-hcj,aeU]at hc;refine wW ?_;exact hR1 (k+1) _ acB ⟨acB,hc⟩ (.le vV)
 ·obtain rfl:k=ps.length:=acB;rw[adL,chkRows]at hc;refine wW ?_;exact hR.ro ⟨rfl,by rw[hP,<-hc];rfl⟩
theorem Gw (xs:List Int) (i:Int):(gN xs i).length=if findI xs 0 i<0/\findI xs 0 (-1)<0 then xs.length+1 else xs.length:=by
 unfold gN;split<;>simp
def f64 (n:Int):Nat:=FloatKind.f64.nearest n
def cN (z:Int×Int):AV:=.cx .f64 (FloatKind.f64.nearest z.1) (FloatKind.f64.nearest z.2)
def rep (i x:Int):Int:=if x=i then -1 else x
def parLoop (k:Nat):List Int->Nat->List Int->List Int
 | l,_,[]=>l
 | l,n,x::r=>parLoop k (if n=0/\findI l 0 x<0 then l.set k x else gN l x) (n+1) r
def rowOf (i:Nat) (l p:List Int):List Int:=parLoop (gM l i).toNat ((gN l i).map (rep i)) 0 p
def placesGo:Nat->List Int->List (List Int)->List (Int×Int)->List (List Int)->Option (List (Int×Int)×List (List Int))
 | _,_,[],a,rs=>some (a,rs)
 | i,l,p::r,a,rs=>if 40<(rowOf i l p).length then none else placesGo (i+1) (rowOf i l p) r (a++[(gM l i,(i:Int))]) (rs++[rowOf i l p])
def placesP (ps:List (List Int)):List (Int×Int)×List (List Int)×Int:=
 if aY ps=0 then match placesGo 0 [] ps [] []with
  | some (a,rs)=>(a,rs,0)
  | none=>([],[],2)
 else([],[],aY ps)
theorem Gv (xs:List Int) (i:Int):0<=gM xs i/\gM xs i<(gN xs i).length:=by
 have b1:=ql xs 0 i;have b2:=ql xs 0 (-1);rw[Gw];unfold gM;split<;>(try split)<;>(try split)<;>omega
theorem zk (xs:List Int) (i:Int):(gN xs i).length<=xs.length+1/\xs.length<=(gN xs i).length:=by
 rw[Gw];split<;>omega
theorem sJ (xs:List (Int×Int)) (a b:Int):xs.map cN++[.cx .f64 (FloatKind.f64.nearest a) (FloatKind.f64.nearest b)]=(xs++[(a,b)]).map cN:=by simp[cN]
theorem sD (xs:List (Int×Int)):(xs.map cN).all aD=true:=by simp[aD,cellsOf,isCell,cN]
theorem XC {i:Int} {l c:List Int} {j:Nat} (hj:j<l.length) (hc:c=(l.take j).map (rep i)++l.drop j):c.length=l.length/\c.getD j 0=l.getD j 0/\∀y,c.set j y=(l.take j).map (rep i)++y::l.drop (j+1):=by
 subst hc;refine⟨by simp;omega,?_,λy=>?_⟩
 ·simp[acC,List.getElem?_append,ac1 (Nat.le_of_lt hj)]
 ·rw[List.set_append,acY,acJ,ac1 (Nat.le_of_lt hj),if_neg acB,ae5,od 0 l hj];rfl
theorem XE {i:Int} {l:List Int} {j:Nat} (hj:j<l.length):(l.take (j+1)).map (rep i)=(l.take j).map (rep i)++[rep i (l.getD j 0)]:=by
 rw[vm 0 l hj];simp
set_option maxHeartbeats 1000000 in
theorem CW (ps:List (List Int)) (h1:ps.length<=1000) (h2:∀r∈ps,r.length<=1000):aw Tryz.prog 6 [.ro 1 (a8 ps)]
    (.ab [.ro 1 ((placesP ps).1.map cN),.ro 1 (a8 (placesP ps).2.1),.int .i64 (placesP ps).2.2]):=by
 refine Cod.Pu (λE R hN hR=>?_);refine wW ?_;refine aj (O6 ps h1 h2) rfl rfl ?_;by_cases hc:aY ps=0;rotate_left
 ·refine wW ?_;exact hR.val (.ab (.cons (.nil 1) (.cons (.nil 1) (.cons (.refl _) .nil)))) ⟨rfl,by simp[placesP,hc]⟩
 have hP:placesP ps=match placesGo 0 [] ps [] []with | some (a,rs)=>(a,rs,0) | none=>([],[],2):=by simp[placesP,hc]
 refine ah hc ?_
 refine aJ hN (λa:Nat×List Int×List (Int×Int)×List (List Int)=>⟨[(6,.sl 6036 0 a.2.2.1.length),(7,.sl 6081 0 a.2.2.2.length),(8,.aa 6008 0),(20,.ro 1 (a8 ps)),(21,.int .i64 ps.length),(22,.int .i64 a.1)],
     [(6036,.arr 1 (a.2.2.1.map cN)),(6081,.arr 1 (a8 a.2.2.2)),(2028,.arr 1 (ints a.2.1)),(6008,.var [.sl 2028 0 a.2.1.length])]⟩)
  (λa=>a.1<=ps.length/\a.2.1.length<=40/\a.2.2.1.length=a.1/\a.2.2.2.length=a.1/\placesGo a.1 a.2.1 (ps.drop a.1) a.2.2.1 a.2.2.2=placesGo 0 [] ps [] [])
  (λa=>ps.length-a.1) (0,[],[],[]) (.nil 6 6036 1 rfl (.nil 7 6081 1 rfl (.iW 6008 0 2028 1 [.an] rfl rfl rfl (.le vV)))) ⟨by simp,by simp,rfl,rfl,rfl⟩ ?_
 rintro⟨k,l,ac,rs⟩ R1 ⟨hk,hl,hla,hlr,hgo⟩ hR1;simp only at hk hl hla hlr hgo;by_cases hlt:k<ps.length
 ·rw[od [] ps hlt,placesGo]at hgo;have hrl:=h2 _ (qu [] ps hlt);obtain⟨p,hp⟩:∃p,p=ps.getD k []:=⟨_,rfl⟩;rw[<-hp]at hgo hrl;have htl:=zk l k;have htk:=Gv l k;simp(disch:=omega)only[go_sem,simprocAttr,<-hp];refine aN (lX l) (Gx l k acB) vV nofun ?_;rintro h' v ar ⟨rfl,rfl,rfl⟩;refine⟨rfl,rfl,?_⟩;refine aV @sD @sJ ?_;obtain⟨l1,hl1⟩:∃l1,l1=gN l k:=⟨_,rfl⟩;obtain⟨kk,hkk⟩:∃kk,kk=gM l k:=⟨_,rfl⟩;rw[<-hl1]at htl htk;rw[<-hkk]at htk;have hrow:rowOf k l p=parLoop kk.toNat (l1.map (rep k)) 0 p:=by rw[hl1,hkk];rfl
  rw[<-hkk]at hgo;obtain⟨ac2,hac⟩:∃ac2,ac2=ac++[(kk,(k:Int))]:=⟨_,rfl⟩;have hal:ac2.length=k+1:=by rw[hac];simp[hla]
  rw[<-hac]at hgo;rw[<-hl1,<-hkk,<-hac]
  refine aJ hN (λa:Nat×List Int=>⟨[(6,.sl 6036 0 (k+1)),(7,.sl 6081 0 k),(8,.aa 6008 0),(9,.int .i64 k),(10,.ro 1 (ints p)),(11,.int .i64 kk),(20,.ro 1 (a8 ps)),(21,.int .i64 ps.length),(22,.int .i64 k),(38,.int .i64 l1.length),(39,.int .i64 a.1)],
      [(6036,.arr 1 (ac2.map cN)),(6081,.arr 1 (a8 rs)),(2028,.arr 1 (ints a.2)),(6008,.var [.sl 2028 0 l1.length])]⟩)
   (λa=>a.1<=l1.length/\a.2.length=l1.length/\a.2=(l1.take a.1).map (rep k)++l1.drop a.1)
   (λa=>l1.length-a.1) (0,l1) (.le vV) ⟨by simp,rfl,by simp⟩ ?_
  rintro⟨j,c⟩ R2 ⟨hj,hcl,hce⟩ hR2;simp only at hj hcl hce;by_cases hjl:j<l1.length
  ·obtain⟨_,hg,bo⟩:=XC hjl hce;have hsn:=XE (i:=(k:Int)) hjl;refine ah hg ?_;refine kK (λhe=>?_) (λhe=>?_)
   ·refine ah he ?_;refine hR2 (j+1,c.set j (-1)) _ (by simp only;omega) ⟨by simp only;omega,by simp[hcl],?_⟩ (.le vV);rw[bo,hsn,he,rep,if_pos rfl];simp
   ·refine wW ?_;refine hR2 (j+1,c) _ (by simp only;omega) ⟨by simp only;omega,hcl,?_⟩ (.le vV);rw[hsn,rep,if_neg he,hce,od 0 l1 hjl];simp
  ·obtain rfl:j=l1.length:=acB;have hcm:c=l1.map (rep k):=by rw[hce];simp
   rw[<-hcm]at hrow;clear hR2 hce;refine wW ?_
   refine aJ hN (λa:Nat×List Int=>⟨[(6,.sl 6036 0 (k+1)),(7,.sl 6081 0 k),(8,.aa 6008 0),(11,.int .i64 kk),(20,.ro 1 (a8 ps)),(21,.int .i64 ps.length),(22,.int .i64 k),(52,.ro 1 (ints p)),(53,.int .i64 p.length),(54,.int .i64 a.1)],
       [(6036,.arr 1 (ac2.map cN)),(6081,.arr 1 (a8 rs)),(2028,.arr 1 (ints a.2)),(6008,.var [.sl 2028 0 a.2.length])]⟩)
    (λa=>a.1<=p.length/\l1.length<=a.2.length/\a.2.length<=41+a.1/\parLoop kk.toNat a.2 a.1 (p.drop a.1)=rowOf k l p)
    (λa=>p.length-a.1) (0,c) (.le vV) ⟨by simp,by simp[hcl],by simp;omega,hrow.symm⟩ ?_
   rintro⟨n,m⟩ R3 ⟨hn,hm1,hm2,aL⟩ hR3;simp only at hn hm1 hm2 aL;by_cases hnl:n<p.length
   ·rw[od 0 p hnl,parLoop]at aL;obtain⟨x,hx⟩:∃x,x=p.getD n 0:=⟨_,rfl⟩;rw[<-hx]at aL;simp(disch:=omega)only[go_sem,simprocAttr,<-hx];refine gG ?_;refine O5 (bs:=[.ro 1 (ints m),.int .i64 x]) vV (λ_=>xB m x acB) (λhe=>eY he) rfl ?_;refine wW ?_;refine gG ?_;refine kK (λhe=>?_) (λhe=>?_)
    ·have he':n=0/\findI m 0 x<0:=⟨acB,he.2⟩;rw[if_pos he']at aL;refine wW ?_;exact hR3 (n+1,m.set kk.toNat x) _ (by simp only;omega) ⟨by simp only;omega,by simpa using hm1,by simp only[ad5];omega,aL⟩ (.le vV)
    ·have he':¬(n=0/\findI m 0 x<0):=λe=>he ⟨acB,e.2⟩;rw[if_neg he']at aL;have htl2:=zk m x;refine wW ?_;refine aN (lX m) (Gx m x acB) vV nofun ?_;rintro h' v ar ⟨rfl,rfl,rfl⟩;refine⟨rfl,rfl,?_⟩;refine wW ?_;exact hR3 (n+1,gN m x) _ (by simp only;omega) ⟨by simp only;omega,by simp only;omega,by simp only;omega,aL⟩ (.le vV)
   ·obtain rfl:n=p.length:=acB;rw[adL,parLoop]at aL;rw[<-aL]at hgo;clear hR3;by_cases hbig:40<m.length
    ·rw[if_pos hbig]at hgo;refine ah @Eng.jn ?_;exact hR.val (.ab (.cons (.nil 1) (.cons (.nil 1) (.cons (.refl _) .nil)))) ⟨rfl,by rw[hP,<-hgo];rfl⟩
    ·rw[if_neg hbig]at hgo;refine ah @Eng.jn ?_;exact hR1 (k+1,m,ac2,rs++[m]) _ (by simp only;omega) ⟨by simp only;omega,by simp only;omega,hal,by simp[hlr],hgo⟩ (.le vV)
 ·obtain rfl:k=ps.length:=acB;rw[adL,placesGo]at hgo;refine wW ?_;refine hR.wk (h':=[]) (r':=.ab [.ro 1 (ac.map cN),.ro 1 (a8 rs),.int .i64 0]) rfl (.bn 6036 (.bn 6081 (.le vV))) ⟨rfl,?_⟩;rw[hP,<-hgo]
end Go.Proofs.YtgghhaahnpbnmaaGreatDoor.Gr
