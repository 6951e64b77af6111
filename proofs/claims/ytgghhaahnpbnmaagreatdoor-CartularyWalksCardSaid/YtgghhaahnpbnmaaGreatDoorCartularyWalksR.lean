/- The proof, part 18 of 51. -/
import Derived.Test.YtgghhaahnpbnmaaGreatDoorCartularyWalksP
import Derived.Test.YtgghhaahnpbnmaaGreatDoorCartularyWalksQ
set_option linter.all false
namespace Go.Proofs.YtgghhaahnpbnmaaGreatDoor.Gr
open Eng
set_option maxRecDepth 10000
theorem Pw (s:List UInt8) (c:Nat) (hc:s.length*c<=140737488355328) (hc2:c<=9223372036854775807):aw Tryz.prog 15 [.str s,.int .i64 c] (.str (Lib.repeatL s c)):=
 y7 rfl rfl (λw=>Tryz.strings_Repeat ⟨s.toArray⟩ c w hc2 (by simpa[ByteArray.size]using hc))
theorem PA (s:List UInt8) (c:UInt8) (hc:c.toNat<128) (hs:s.length<=9223372036854775807):aw Tryz.prog 16 [.str s,.str [c]] (.str (Lib.trimRightB s c)):=
 lj rfl rfl (λw=>Tryz.strings_TrimRight_one ⟨s.toArray⟩ c hc w (by simpa[ByteArray.size]using hs))
def Cg (n:Nat):Bool:=floatToIntVal .f64 (FloatKind.f64.nearest (n:Int)) .i64==some (n:Int)
theorem NL:(List.range 256).all Cg=true:=by kernel_rfl
theorem NK {k:Int} (h:0<=k/\k<=255):floatToIntVal .f64 (FloatKind.f64.nearest k) .i64=some k:=by
 obtain⟨n,rfl⟩:=adg h.1;have:=acI.1 NL n (adI.2 acB);simpa[Cg]using this
open Eng
set_option maxRecDepth 10000
theorem EO (k:Nat):∀(p l:List Int) (n:Nat),l.length<=(parLoop k l n p).length
 | [],l,n=>acG _
 | x::r,l,n=>by
  rw[parLoop];refine adt ?_ (EO k r _ _);split
  ·simp
  exact(zk l x).2
theorem E8:∀(ps:List (List Int)) (i:Nat) (l:List Int) (a:List (Int×Int)) (rs:List (List Int)) (a':List (Int×Int)) (rs':List (List Int)),placesGo i l ps a rs=some (a',rs') ->
    a.length=i->rs.length=i->(∀(j:Nat) z,a[j]?=some z->z.2=j/\0<=z.1/\z.1<40)->(∀r∈rs,r.length<=40) ->
    a'.length=i+ps.length/\rs'.length=i+ps.length/\(∀(j:Nat) z,a'[j]?=some z->z.2=j/\0<=z.1/\z.1<40)/\∀r∈rs',r.length<=40
 | [],i,l,a,rs,a',rs',h,h1,h2,h3,h4=>by
  rw[placesGo]at h;cases h
  exact⟨by simpa using h1,by simpa using h2,h3,h4⟩
 | p::ps,i,l,a,rs,a',rs',h,h1,h2,h3,h4=>by
  rw[placesGo]at h;split at h
  ·cases h
  ·rename_i hb;have hk:=Gv l i
   have hr:(gN l i).length<=(rowOf i l p).length:=by
    have:=EO (gM l i).toNat p ((gN l i).map (rep i)) 0;rw[acY]at this;exact this
   have:=E8 ps (i+1) _ _ _ a' rs' h (by simp[h1]) (by simp[h2]) (λj z hz=>?_) (λr hr=>?_)
   ·obtain⟨g1,g2,g3,g4⟩:=this;exact⟨by rw[g1,acH];omega,by rw[g2,acH];omega,g3,g4⟩
   ·rw[List.getElem?_append]at hz;split at hz;exact h3 j z hz
    ·rename_i hj
     have:j-a.length=0:=by
      have:=(List.getElem?_eq_some_iff.1 hz).1;simp at this;omega
     rw[this]at hz;simp at hz;subst hz;exact⟨by simp only;omega,by simp only;omega,by simp only;omega⟩
   ·rcases adh.1 hr with hr | hr;exact h4 r hr
    ·rw[ac0.1 hr];omega
theorem E9 (ps:List (List Int)):(placesP ps).2.2=0/\(placesP ps).1.length=ps.length/\(placesP ps).2.1.length=ps.length/\(∀(j:Nat) z,(placesP ps).1[j]?=some z->z.2=j/\0<=z.1/\z.1<40)/\(∀r∈(placesP ps).2.1,r.length<=40) \/
    (placesP ps).2.2≠0/\(placesP ps).1=[]/\(placesP ps).2.1=[]:=by
 unfold placesP;split
 ·split
  ·rename_i a rs h;have:=E8 ps 0 [] [] [] a rs h rfl rfl (λj z hz=>by simp at hz) (λr hr=>by cases hr);exact .inl ⟨rfl,by simpa using this.1,by simpa using this.2.1,this.2.2.1,this.2.2.2⟩
  exact .inr ⟨by simp,rfl,rfl⟩
 ·rename_i h;exact .inr ⟨h,rfl,rfl⟩
def wH (i:Int) (k:Nat) (bf:List Int) (j:Nat):UInt8:=if j=k then 42 else if i<bf.getD j 0 then 124 else 32
def iK (i:Int) (k:Nat) (bf:List Int) (n:Nat):List UInt8:=(List.range n).map (wH i k bf)
def nE (l:List UInt8):List UInt8:=Lib.trimRightB l 32
theorem aaQ (l:List UInt8) (m:Nat):nE (l++List.replicate m 32)=nE l:=by
 simp only[nE,Lib.trimRightB,List.reverse_append,List.reverse_replicate]
 congr 1
 induction m with
 | zero=>simp
 | succ m ih=>rw[adO,acZ,List.dropWhile_cons];simpa using ih
theorem Le (i:Int) (k:Nat) (bf:List Int) (n m:Nat) (hi:0<=i) (h1:k<n) (h2:bf.length<=n):iK i k bf (n+m)=iK i k bf n++List.replicate m 32:=by
 induction m with
 | zero=>simp
 | succ m ih=>
  rw[aey,<-ade,<-ih,<-adC,iK,adJ,ady]
  congr 1
  have:bf.getD (n+m) 0=0:=by rw[acC,List.getElem?_eq_none acB];rfl
  simp only[adk,aef,wH,this];rw[if_neg acB,if_neg acB]
def yc (i:Nat) (k:Int) (rs:List (List Int)):List UInt8:=nE (iK i k.toNat (if i=0 then[]else rs.getD (i-1) []) 41)
def uj (a:List (Int×Int)) (rs:List (List Int)):List (List UInt8):=(List.range a.length).map λi=>yc i (a.getD i (0,0)).1 rs
def oT (ps:List (List Int)):List (List UInt8)×Int:=if(placesP ps).2.2=0 then(uj (placesP ps).1 (placesP ps).2.1,0)else([],(placesP ps).2.2)
def cj (i:Int) (bf:List Int) (n j:Nat):List UInt8:=(List.range n).map λm=>if m<j/\i<bf.getD m 0 then 124 else 32
theorem Lh (i:Int) (bf:List Int) (n j:Nat):(cj i bf n j).length=n:=by simp[cj]
theorem Lk (i:Int) (bf:List Int) (n:Nat):cj i bf n 0=Lib.repeatL [32] n:=by
 have:∀n,Lib.repeatL [32] n=List.replicate n (32:UInt8):=by
  intro n
  induction n with
  | zero=>rfl
  | succ n ih=>rw[Lib.repeatL,ih,adO];rfl
 rw[this,cj];apply afg (by simp);intro m h1 h2;simp
theorem Li {i:Int} {bf:List Int} {n j:Nat} (h:i<bf.getD j 0):(cj i bf n j).set j 124=cj i bf n (j+1):=by
 apply afg (by simp[cj]);intro m h1 h2;simp only[cj,List.getElem_set,List.getElem_map,List.getElem_range];by_cases e:j=m
 ·subst e;rw[if_pos rfl,if_pos ⟨acB,h⟩]
 ·rw[if_neg e];by_cases hm:m<j
  ·simp[hm,show m<j+1 by omega]
  ·simp[hm,show ¬m<j+1 by omega]
theorem Lj {i:Int} {bf:List Int} {n j:Nat} (h:¬i<bf.getD j 0):cj i bf n (j+1)=cj i bf n j:=by
 simp only[cj];refine adN λm _=>?_;by_cases e:m=j
 ·subst e;rw[if_neg (λx=>h x.2),if_neg (λx=>h x.2)]
 ·by_cases hm:m<j
  ·simp[hm,show m<j+1 by omega]
  ·simp[hm,show ¬m<j+1 by omega]
theorem Lg {i:Int} {bf:List Int} {n k:Nat} (hi:0<=i):(cj i bf n bf.length).set k 42=iK i k bf n:=by
 apply afg (by simp[cj,iK]);intro m h1 h2;simp only[cj,iK,wH,List.getElem_set,List.getElem_map,List.getElem_range];by_cases e:k=m
 ·subst e;simp
 ·rw[if_neg e,if_neg (Ne.symm e)];by_cases hm:m<bf.length
  ·simp[hm]
  ·have:bf.getD m 0=0:=by rw[acC,List.getElem?_eq_none acB];rfl
   simp only[hm,false_and,if_false,this];rw[if_neg acB]
theorem Ld {i:Int} {bf:List Int} {n k:Nat} (hi:0<=i) (h1:k<n) (h2:bf.length<=n) (h3:n<=41):nE (iK i k bf n)=nE (iK i k bf 41):=by
 obtain⟨m,hm⟩:∃m,n+m=41:=⟨41-n,acB⟩;rw[<-hm,Le i k bf n m hi h1 h2,aaQ]
theorem Ps (ps:List (List Int)) (h1:ps.length<=1000) (h2:∀r∈ps,r.length<=1000):aw Tryz.prog 4 [.ro 1 (a8 ps)]
    (.ab [.ro 1 ((oT ps).1.map AV.str),.int .i64 (oT ps).2]):=by
 refine Cod.Pt (λE R hN hR=>?_);refine wW ?_;refine aj (CW ps h1 h2) rfl rfl ?_;rcases E9 ps with⟨e0,la,lr,ha,hr⟩ | ⟨e0,ea,er⟩;rotate_left
 ·simp(disch:=first | omega | (simp only[Lx];omega))only[go_sem,simprocAttr,ea,er];exact hR.val (.ab (.cons (.nil 1) (.cons (.refl _) .nil))) ⟨rfl,by simp[oT,e0]⟩
 have hP:oT ps=(uj (placesP ps).1 (placesP ps).2.1,0):=by rw[oT,if_pos e0]
 generalize (placesP ps).1=a at *
 generalize (placesP ps).2.1=rs at *
 generalize (placesP ps).2.2=e at *
 refine ah e0 ?_;obtain⟨ln,hln⟩:∃ln:Nat->List UInt8,∀i,ln i=yc i (a.getD i (0,0)).1 rs:=⟨_,λ_=>rfl⟩;obtain⟨bf,hbf⟩:∃bf:Nat->List Int,∀i,bf i=if i=0 then[]else rs.getD (i-1) []:=⟨_,λ_=>rfl⟩
 have hbl:∀i,i<=a.length->(bf i).length<=40:=by
  intro i hi;rw[hbf];split
  ·simp
  exact hr _ (qu [] rs acB)
 have ho:uj a rs=(List.range a.length).map ln:=by
  simp only[uj];exact adN λi _=>(hln i).symm
 refine aJ hN (λk:Nat=>⟨[(5,.ro 1 (a8 rs)),(7,.sl 10063 0 k),(8,.ro 1 (ints (bf k))),(23,.ro 1 (a.map cN)),(24,.int .i64 a.length),(25,.int .i64 k)],[(10063,.arr 1 (((List.range k).map ln).map AV.str))]⟩)
  (λk=>k<=a.length) (λk=>a.length-k) 0 (.nil 7 10063 1 rfl (.val 8 .an (.ro 1 []) rfl (.one (.nil 1)) (.le (by simp(disch:=first | omega | (simp only[Lx];omega))only[go_sem,simprocAttr,hbf 0,List.range_zero])))) acB ?_
 rintro k R1 hk hR1;by_cases hlt:k<a.length
 ·have hz0:=ha k _ (by rw[List.getElem?_eq_getElem hlt]);obtain⟨kn,hkn⟩:=adg hz0.2.1
  have hz:a.getD k default=((kn:Int),(k:Int)):=by
   rw[acC,List.getElem?_eq_getElem hlt,ads];exact Prod.ext hkn hz0.1
  have hz':(a.getD k (0,0)).1=(kn:Int):=by
   have:a.getD k (0,0)=a.getD k default:=rfl;rw[this,hz]
  have hkn2:kn<40:=by have:=hz0.2.2;rw[hkn]at this;omega
  have hf:=NK (k:=(kn:Int)) ⟨acB,acB⟩;have hb40:=hbl k hk;have hrow:bf (k+1)=rs.getD k []:=by rw[hbf];rfl
  obtain⟨b,hb⟩:∃b,b=bf k:=⟨_,rfl⟩;rw[<-hb]at hb40;obtain⟨n,hn⟩:∃n,n=max b.length (kn+1):=⟨_,rfl⟩;have hmx:max (b.length:Int) ((kn:Int)+1)=(n:Int):=acB;have hcl:∀j,(cj k b n j).length=n:=λj=>Lh _ _ _ _;simp(disch:=first | omega | (simp only[Lx];omega))only[go_sem,simprocAttr,hz,cN,hf,<-hb,hmx];refine aj (Pw [32] n (by simp;omega) acB) rfl rfl ?_;rw[<-Lk k b n];simp(disch:=first | omega | (simp only[Lx];omega))only[go_sem,simprocAttr,hcl 0]
  refine aJ hN (λj:Nat=>⟨[(5,.ro 1 (a8 rs)),(7,.sl 10063 0 k),(9,.int .i64 k),(10,.cx .f64 (FloatKind.f64.nearest kn) (FloatKind.f64.nearest k)),(11,.sl 10038 0 n),(23,.ro 1 (a.map cN)),(24,.int .i64 a.length),(25,.int .i64 k),(39,.ro 1 (ints b)),(40,.int .i64 b.length),(41,.int .i64 j)],
   [(10063,.arr 1 (((List.range k).map ln).map AV.str)),(10038,.arr 1 ((cj k b n j).map ub))]⟩)
   (λj=>j<=b.length) (λj=>b.length-j) 0 (.le vV) acB ?_
  rintro j R2 hj hR2;have hcj:=hcl j;by_cases hjl:j<b.length
  ·refine wW ?_;refine kK (λhe=>?_) (λhe=>?_)
   ·refine wW ?_;exact hR2 (j+1) _ acB acB (.le (by simp(disch:=first | omega | (simp only[Lx];omega))only[go_sem,simprocAttr,Li he]))
   ·refine wW ?_;exact hR2 (j+1) _ acB acB (.le (by simp(disch:=first | omega | (simp only[Lx];omega))only[go_sem,simprocAttr,Lj he]))
  ·obtain rfl:j=b.length:=acB;clear hR2;refine ah hf ?_;rw[Lg acB];have hl2:(iK k kn b n).length=n:=by simp[iK]
   refine aj (PA _ 32 (by decide) acB) rfl rfl ?_
   have hline:Lib.trimRightB (iK k kn b n) 32=ln k:=by
    rw[hln,yc,hz']
    show nE _=_
    rw[Ld acB acB acB acB,hb,hbf];rfl
   rw[hline];have hsn:((List.range k).map ln)++[ln k]=(List.range (k+1)).map ln:=by rw[adJ,ady];rfl
   refine ah hsn ?_;exact hR1 (k+1) _ acB acB (.le (eY hrow))
 ·obtain rfl:k=a.length:=acB;refine wW ?_;refine hR.wk (h':=[]) (r':=.ab [.ro 1 (((List.range a.length).map ln).map AV.str),.int .i64 0]) rfl (.bn 10063 (.le (by simp(disch:=first | omega | (simp only[Lx];omega))only[go_sem,simprocAttr,ae8]))) ⟨rfl,?_⟩;rw[hP,ho]
def f60 (ps:List (List Int)):List (List Int):=ps.map λr=>r.take 60
def jS (ps:List (List Int)):List (List Int):=f60 (ps.take 220)
theorem Ch (ps:List (List Int)):(f60 ps).length=ps.length:=by simp[f60]
theorem NM {ps:List (List Int)} {k:Nat} (h:k<ps.length):f60 (ps.take (k+1))=f60 (ps.take k)++[(ps.getD k []).take 60]:=by
 rw[vm [] ps h];simp[f60]
theorem NY (ps:List (List Int)) (h1:ps.length<=9223372036854775807) (h2:∀r∈ps,r.length<=9223372036854775807):aw Tryz.prog 5 [.ro 1 (a8 ps)] (.ro 1 (a8 (jS ps))):=by
 refine Cod.NZ (λE R hN hR=>?_);refine wW ?_;refine aJ hN (λk:Nat=>⟨[(0,.ro 1 (a8 ps)),(3,.sl 13006 0 k),(4,.int .i64 k)],[(13006,.arr 1 (a8 (f60 (ps.take k))))]⟩) (λk=>k<=ps.length/\k<=220) (λk=>ps.length-k) 0 (.le (by simp(disch:=first | omega | (simp only[Lx];omega))only[go_sem,simprocAttr];rfl)) ⟨acB,acB⟩ ?_;rintro k R2 ⟨hk,hk2⟩ hR2;have hfl:(f60 (ps.take k)).length=k:=by rw[Ch];simp;omega
 by_cases hlt:k<ps.length/\k<220
 ·obtain⟨hlt,hl2⟩:=hlt;have hf:=NM hlt;have aL:=h2 _ (qu [] ps hlt);obtain⟨p,hp⟩:∃p,p=ps.getD k []:=⟨_,rfl⟩;rw[<-hp]at hf aL;simp(disch:=first | omega | (simp only[Lx];omega))only[go_sem,simprocAttr,<-hp];refine gn hN (λ_:Unit=>⟨[(0,.ro 1 (a8 ps)),(3,.sl 13006 0 k),(4,.int .i64 k),(5,.ro 1 (ints (p.take 60)))],[(13006,.arr 1 (a8 (f60 (ps.take k))))]⟩) (λ_=>True) (λR3 hR3=>?_) (λ_ _=>?_)
  ·by_cases h60:60<p.length
   ·refine wW ?_;exact hR3 () _ trivial (.le vV)
   ·refine wW ?_;exact hR3 () _ trivial (.le vV)
  ·have h6:(p.take 60).length<=60:=aeZ _ _;refine wW ?_;exact hR2 (k+1) _ acB ⟨acB,acB⟩ (.le (eY hf))
 ·have hk3:ps.take k=ps.take 220:=by
   by_cases h:k=220
   ·rw[h]
   ·rw[acF acB,acF acB]
  have hfp:f60 (ps.take k)=jS ps:=by rw[hk3];rfl
  rw[hfp]at hfl;by_cases hlt2:k<ps.length
  ·refine ah hfp ?_;exact hR.wk (h':=[]) (r':=.ro 1 (a8 (jS ps))) (ar':=[.undef]) rfl (.bn 13006 (.le vV)) ⟨rfl,rfl⟩
  ·have hkl:k=ps.length:=acB;have hfq:f60 ps=jS ps:=by rw[<-hfp,hkl,acF (acG _)]
   refine ah hfq ?_;refine cB hfq ?_;exact hR.wk (h':=[]) (r':=.ro 1 (a8 (jS ps))) (ar':=[.undef]) rfl (.bn 13006 (.le vV)) ⟨rfl,rfl⟩
theorem N0 (ps:List (List Int)):(jS ps).length<=220/\∀r∈jS ps,r.length<=60:=by
 refine⟨by rw[jS,Ch];exact aeZ _ _,λr hr=>?_⟩;simp only[jS,f60,adu]at hr;obtain⟨x,_,rfl⟩:=hr;exact aeZ _ _
end Go.Proofs.YtgghhaahnpbnmaaGreatDoor.Gr
