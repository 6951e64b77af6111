/- The proof, part 34 of 43. -/
import Derived.Test.YtoalcafkffmiiaaGreatDoorOdbShadowsU
import Derived.Test.YtoalcafkffmiiaaGreatDoorOdbShadowsZG
import Derived.Lib.SlicesCompact
set_option linter.all false
namespace Go.Proofs.YtoalcafkffmiiaaGreatDoor.Ls
open Eng
set_option maxRecDepth 10000
theorem Ae:∀x y:Bs,x<y↔Lib.compareBytes x y<0
 | [],[]=>by simp[Lib.compareBytes]
 | [],_::_=>by simp[Lib.compareBytes]
 | _::_,[]=>by simp[Lib.compareBytes]
 | a::x,b::y=>by
  rw[List.cons_lt_cons_iff,Ae x y];simp only[Lib.compareBytes];by_cases h1:a<b
  ·simp[h1]
  ·by_cases h2:b<a
   ·have:¬a=b:=λe=>by subst e;exact h1 h2
    simp[h1,h2,this]
   ·have:a=b:=by
     simp only[aBL]at h1 h2;exact UInt8.toNat.inj aA4
    simp[this]
theorem qf (x y:Bs):x<=y↔Lib.compareBytes x y<=0:=by
 have h:x<=y↔¬y<x:=Iff.rfl;rw[h,Ae];have:=fV x y;omega
abbrev uP (l:List Bs):List Bs:=l.mergeSort λx y=>decide (x<=y)
theorem Dw (l:List Bs):(uP l).Pairwise (λa b=>Lib.compareBytes a b<=0):=by
 have h:=List.pairwise_mergeSort (le:=λx y:Bs=>decide (x<=y))
  (λa b c h1 h2=>by
   rw[decide_eq_true_eq,qf]at *
   exact j8 a b c h1 h2)
  (λa b=>by
   rw[aCJ,decide_eq_true_eq,decide_eq_true_eq,qf,qf];have:=fV a b
   omega) l
 exact h.imp (λh=>by rwa[decide_eq_true_eq,qf]at h)
theorem rV (l:List Bs) (i:Nat):(l.toArray[i]!)=l.getD i []:=by
 rw[aA5,getElem!_def];simp only[List.getElem?_toArray];cases l[i]?<;>rfl
theorem DF {l:List Bs} (h:l.Pairwise (λa b=>Lib.compareBytes a b<=0)) {i j:Nat} (hij:i<j) (hj:j<l.length):Lib.compareBytes (l.getD i []) (l.getD j [])<=0:=by
 have:=aCT.1 h i j aA4 hj hij
 rwa[aA5,aA5,List.getElem?_eq_getElem hj,List.getElem?_eq_getElem (by omega:i<l.length)]
theorem xh {l:List Bs} (h:l.Pairwise (λa b=>Lib.compareBytes a b<=0)):∀m,m<=l.length->fu (Lib.compactUpTo l.toArray m)/\(∀x,x∈Lib.compactUpTo l.toArray m↔x∈l.take m)/\∀x∈Lib.compactUpTo l.toArray m,0<m/\Lib.compareBytes x (l.getD (m-1) [])<=0
 | 0,_=>⟨.nil,λx=>by simp[Lib.compactUpTo],λx hx=>by simp[Lib.compactUpTo]at hx⟩
 | m+1,hm=>by
  obtain⟨h1,h2,h3⟩:=xh h m aA4
  have hsn:l.take (m+1)=l.take m++[l.getD m []]:=by
   rw[List.take_succ,aA5,List.getElem?_eq_getElem (by omega:m<l.length)];rfl
  rw[Lib.compactUpTo_succ,rV]
  have hk:Lib.keeps l.toArray m=decide (m=0\/l.getD m []≠l.getD (m-1) []):=by
   unfold Lib.keeps;rw[rV,rV]
  by_cases hkm:m=0\/l.getD m []≠l.getD (m-1) []
  ·rw[hk,decide_eq_true hkm,if_pos rfl];refine⟨?_,λx=>?_,λx hx=>⟨aA4,?_⟩⟩
   ·unfold fu;rw[List.pairwise_append];refine⟨h1,aCl _ _,λx hx y hy=>?_⟩;rw[aBs]at hy;subst hy;obtain⟨h4,h5⟩:=h3 x hx;have h6:=DF h (i:=m-1) (j:=m) aA4 aA4
    have h7:Lib.compareBytes (l.getD (m-1) []) (l.getD m [])≠0:=λe=>by
     rcases hkm with h0 | h0
     ·omega
     ·exact h0 (j9 e).symm
    exact o0 h5 aA4
   ·rw[hsn,aBz,aBz,h2]
   ·rw[show m+1-1=m by omega];rcases aBz.1 hx with hx | hx
    ·obtain⟨h4,h5⟩:=h3 x hx;exact j8 _ _ _ h5 (DF h aA4 aA4)
    ·rw[aBs]at hx;rw[hx,k8];omega
  ·rw[hk,decide_eq_false hkm,if_neg (by simp),aBV];have h0:m≠0:=λe=>hkm (.inl e);have he:l.getD m []=l.getD (m-1) []:=Decidable.not_not.1 (λe=>hkm (.inr e));refine⟨h1,λx=>?_,λx hx=>⟨aA4,?_⟩⟩
   ·rw[h2,hsn,aBz,aBs];constructor
    ·exact .inl
    ·rintro(hx | rfl)
     ·exact hx
     ·rw[he];have hl:m-1<(l.take m).length:=by rw[aBa];omega
      have h:=aBJ hl
      have e:(l.take m)[m-1]=l.getD (m-1) []:=by
       rw[List.getElem_take,aA5,List.getElem?_eq_getElem (by omega:m-1<l.length)];rfl
      rwa[e]at h
   ·rw[show m+1-1=m by omega,he];exact(h3 x hx).2
theorem xg {l:List Bs} (h:l.Pairwise (λa b=>Lib.compareBytes a b<=0)):fu (Lib.compact l)/\∀x,x∈Lib.compact l↔x∈l:=by
 obtain⟨h1,h2,_⟩:=xh h l.length (aA9 _);refine⟨h1,λx=>?_⟩;have:=h2 x
 rwa[aA7 (aA9 _)]at this
def iw (l:List Bs):List Bs:=Lib.compact (uP l)
theorem A1 (l:List Bs):fu (iw l):=(xg (Dw l)).1
theorem qz (l:List Bs) (x:Bs):x∈iw l↔x∈l:=((xg (Dw l)).2 x).trans List.mem_mergeSort
open Eng
set_option maxRecDepth 10000
theorem yS:∀i,i<16->∀j,j<16->i<j->(Sh.gw.getD i 0).toNat<(Sh.gw.getD j 0).toNat:=by decide +kernel
theorem yV:∀a b:Bs,Lib.compareBytes a b<0->a.length=b.length->Lib.compareBytes (Sh.bW a) (Sh.bW b)<0
 | [],[],h,_=>by simp[Lib.compareBytes]at h
 | [],_::_,_,h=>by simp at h
 | _::_,[],_,h=>by simp at h
 | x::a,y::b,h,hl=>by
  have e:∀(c:UInt8) (r:Bs),Sh.bW (c::r)=Sh.gw.getD (c.toNat/16) 0::Sh.gw.getD (c.toNat%16) 0::Sh.bW r:=λ_ _=>rfl;have hx:=x.toNat_lt;have hy:=y.toNat_lt;rw[e,e];simp only[Lib.compareBytes,aBL]at h |-;by_cases h1:x.toNat<y.toNat
  ·by_cases h2:x.toNat/16<y.toNat/16
   ·rw[if_pos (yS _ aA4 _ aA4 h2)];omega
   ·have h3:x.toNat/16=y.toNat/16:=aA4;rw[h3,if_neg (aCP _),if_neg (aCP _),if_pos (yS _ aA4 _ aA4 aA4)];omega
  ·rw[if_neg h1]at h;by_cases h2:y.toNat<x.toNat
   ·rw[if_pos h2]at h;omega
   ·rw[if_neg h2]at h;have h3:x.toNat=y.toNat:=aA4;rw[h3,if_neg (aCP _),if_neg (aCP _),if_neg (aCP _),if_neg (aCP _)];exact yV a b h (by simpa using hl)
theorem yR:∀k,k<16->eF (Sh.gw.getD k 0)=true:=by decide +kernel
theorem yT:∀t:Bs,(Sh.bW t).all eF=true
 | []=>rfl
 | c::r=>by
  have e:Sh.bW (c::r)=Sh.gw.getD (c.toNat/16) 0::Sh.gw.getD (c.toNat%16) 0::Sh.bW r:=rfl;have hc:=c.toNat_lt;rw[e,aCb,aCb,yT r,yR _ aA4,yR _ aA4];rfl
theorem PK {t:Bs} (h:t.length=20):cm (Sh.bW t)=true:=by
 have h1:=Sh.s5 t;unfold cm gV;rw[yT,aDF,aBd,decide_eq_true_eq,decide_eq_true_eq];omega
theorem R5 {s:Bs} (h:cm s=true):s.length=40/\s.all eF=true:=by
 unfold cm gV at h;rw[aBd,aBd,decide_eq_true_eq,decide_eq_true_eq]at h;exact⟨h.2,h.1.1⟩
abbrev Rw:=Bs×Nat×Nat
abbrev fD:Rw:=([],0,0)
def ky (r:Rw):AV:=.agg [.str r.1,.int .i64 (r.2.1:Nat),.int .u32 (r.2.2:Nat)]
def fp (L:List Rw):List AV:=L.map ky
theorem mH {L:List Rw} {i:Nat} (h:i<L.length):nth (fp L) i=.agg [.str (L.getD i fD).1,.int .i64 ((L.getD i fD).2.1:Nat),.int .u32 ((L.getD i fD).2.2:Nat)]:=by
 simp[nth,fp,ky,aA5,h]
theorem gj (L:List Rw):(fp L).length=L.length:=by simp[fp]
theorem arD {L:List Rw}:(fp L).all a6=true:=by simp[fp,ky,a6,cellsOf,isCell]
theorem arC {L:List Rw} {a:Bs} {b c:Nat}:fp L++[.agg [.str a,.int .i64 (b:Nat),.int .u32 (c:Nat)]]=fp (L++[(a,b,c)]):=by simp[fp,ky]
theorem arE:fp []=[]:=(rfl)
theorem CP (L:List Rw):aI (fp L) 0 L.length=fp L:=by
 unfold aI;rw[aBF,aA7 (by rw[gj];omega)]
def cC (s:Bs) (o n:Nat):Bs:=(s.drop o).take n
theorem jj {s:Bs} {o n:Nat} (h:o+n<=s.length):(cC s o n).length=n:=by unfold cC;rw[aBa,aBb];omega
theorem eV (s:Bs) (o n:Nat):(s.drop o).take n=cC s o n:=rfl
def dv (s:Bs) (i:Nat):Nat:=if i=0 then 0 else cM (cC s (4+4*i) 4)
def da (s:Bs) (k:Nat):List AV:=(List.range 257).map λi=>.int .i64 ((if i<=k then dv s i else 0:Nat):Int)
theorem sN (s:Bs) (i:Nat):dv s i<4294967296:=by
 unfold dv;split
 ·omega
 ·exact mY (n:=4) (by unfold cC;rw[aBa];omega)
theorem ke (s:Bs) (k:Nat):(da s k).length=257:=by simp[da]
theorem nq (s:Bs) (k:Nat) {i:Nat} (h:i<257):(da s k).getD i .undef=.int .i64 ((if i<=k then dv s i else 0:Nat):Int):=by
 unfold da;rw[aA5,List.getElem?_map,List.getElem?_range h];rfl
theorem MM (s:Bs) {k:Nat} (h:k<256):(da s k).set (k+1) (.int .i64 (dv s (k+1):Nat))=da s (k+1):=by
 apply aCO;intro j;rw[List.getElem?_set,ke];unfold da;rw[List.getElem?_map,List.getElem?_map];by_cases hx:k+1=j
 ·subst hx;rw[if_pos rfl,if_pos aA4,List.getElem?_range aA4];simp
 ·rw[if_neg hx];by_cases hj:j<257
  ·rw[List.getElem?_range hj];simp only[aBv];by_cases h1:j<=k
   ·rw[if_pos h1,if_pos aA4]
   ·rw[if_neg h1,if_neg aA4]
  ·rw[List.getElem?_eq_none (by simp;omega)];rfl
theorem x5 {id:Nat} {s:Bs} {k:Nat}:(da s k).map (killC id)=da s k:=by simp[da,killC]
theorem MJ {id sz:Nat} {es:List AV} {s:Bs} {k:Nat}:(da s k).map (ck id sz es)=da s k:=by simp[da,ck]
theorem ML {s:Bs} {k:Nat}:(da s k).all noRefC=true:=by simp[da,noRefC]
theorem iQ {a b:AV} {xs:List AV} {i:Nat} (h:i<xs.length):((a::(xs++[b])).drop (1+i)).getD 0 .undef=xs.getD i .undef:=by
 rw[aDm,aBS,aA5,List.getElem?_drop,aBO,List.getElem?_append_left h,aA5]
theorem iR {a b:AV} {xs:List AV} {i:Nat} (h:i<xs.length):0<((a::(xs++[b])).drop (1+i)).length:=by simp;omega
theorem N0 {a b v:AV} {xs:List AV} {i:Nat} (h:i<xs.length):c8 (a::(xs++[b])) (1+i) [v]=a::(xs.set i v++[b]):=by
 unfold c8;rw[aDm 1 i,aBR,show i+1+[v].length=(i+1)+1 by simp,aBS,aCB aA4,aCk aA4,aCr,if_pos h];simp
def eY (s:Bs) (n:Nat):Nat:=s.length-40-(1032+28*n)
def gL (s:Bs) (k:Nat):Bs:=cC s (1032+20*k) 20
def o6 (s:Bs) (k:Nat):Nat:=((gL s k).getD 0 0).toNat
def lY (s:Bs) (k:Nat):Prop:=(0<k/\Op.bytesLess (cC s (1012+20*k) 20) (gL s k)=false)\/k<dv s (o6 s k)\/dv s (o6 s k+1)<=k
def gD (s:Bs) (n k:Nat):Nat:=cM (cC s (1032+24*n+4*k) 4)
def jR (s:Bs) (n k:Nat):Nat:=if 2147483648<=gD s n k then cM (cC (cC s (1032+28*n) (eY s n)) (8*(gD s n k-2147483648)) 8)else gD s n k
open Classical in
noncomputable def iy (s:Bs) (n j:Nat):Except Int Rw:=
 if lY s j then .error 3
 else if 2147483648<=gD s n j/\eY s n/8<=gD s n j-2147483648 then .error 3
 else if 1099511627776<jR s n j then .error 2
 else .ok (Sh.bW (gL s j),jR s n j,cM (cC s (1032+20*n+4*j) 4))
noncomputable def rowsP (s:Bs) (n:Nat):Nat->Except Int (List Rw)
 | 0=>.ok []
 | k+1=>match rowsP s n k with
  | .error e=>.error e
  | .ok l=>match iy s n k with
   | .error e=>.error e
   | .ok r=>.ok (l++[r])
theorem CQ {s:Bs} {n:Nat} {e:Int}:∀{m k:Nat},k<=m->rowsP s n k=.error e->rowsP s n m=.error e
 | 0,k,h,h1=>by
  obtain rfl:k=0:=aA4
  exact h1
 | m+1,k,h,h1=>by
  by_cases hk:k=m+1
  ·subst hk;exact h1
  ·unfold rowsP;rw[CQ (by omega:k<=m) h1]
theorem qO {s:Bs} {n:Nat}:∀{k:Nat} {l:List Rw},rowsP s n k=.ok l->l.length=k
 | 0,l,h=>by
  unfold rowsP at h
  cases h;rfl
 | k+1,l,h=>by
  unfold rowsP at h
  cases h1:rowsP s n k with
  | error e=>rw[h1]at h;cases h
  | ok l'=>
   rw[h1]at h
   cases h2:iy s n k with
   | error e=>rw[h2]at h;cases h
   | ok r=>
    rw[h2]at h;cases h;rw[aA8,qO h1];rfl
def xZ (s:Bs):Prop:=∀i,i<256->dv s i<=dv s (i+1)
open Classical in
noncomputable def fF (s:Bs):Except Int (List Rw×Bs):=
 let n:=dv s 256
 if s.length<1072 then .error 6
 else if s.take 8≠[255,116,79,99,0,0,0,2]then .error 3
 else if ¬xZ s then .error 3
 else if 1000<n then .error 2
 else if s.length<1072+28*n then .error 6
 else if eY s n%8≠0 then .error 3
 else match rowsP s n n with
  | .error e=>.error e
  | .ok l=>if Sh.ep (s.take (s.length-20))≠s.drop (s.length-20)then .error 5 else .ok (l,Sh.bW (cC s (s.length-40) 20))
abbrev aM (s:Bs) (p:List Rw×Bs):AV:=.az (.agg (.ro 3 (fp p.1)::(da s 256++[.str p.2])))
def parseA (s:Bs):Except Int (List Rw×Bs)->AV
 | .error e=>.ai [.lit (.pointer none),.int .i64 e]
 | .ok p=>.ai [aM s p,.int .i64 0]
set_option maxHeartbeats 4000000 in
theorem aAm (s:Bs) (hs:s.length<=100000):aJ Tryz.prog 34 [.str s] (parseA s (fF s)):=by
 refine Cod.aAn (λE R hN hR=>?_);have bad:∀{h} (e:Int),fF s=.error e->R h (.ai [.lit (.pointer none),.int .i64 e]) [.undef]:=λe he=>hR.ro ⟨rfl,by rw[he];rfl⟩;by_cases h0:s.length<1072
 ·refine wW ?_;exact bad 6 (by unfold fF;rw[if_pos h0])
 by_cases h1:s.take 8=[255,116,79,99,0,0,0,2];rotate_left
 ·refine au h1 ?_;exact bad 3 (by unfold fF;rw[if_neg h0,if_pos h1])
 refine au h1 ?_;refine aZ hN (λk:Nat=>⟨[(0,.str s),(4,.ab 240019 0),(20,.int .i64 k)],[(240019,.var (.al::(da s k++[.str []])))]⟩) (λk=>k<=256/\∀i,i<k->dv s i<=dv s (i+1)) (λk=>256-k) 0 (.le (by simp(disch:=first | omega | (simp only[Lx];omega))only[go_sem,simprocAttr];rfl)) ⟨aA4,λi h=>by omega⟩ ?_
 rintro k R1 ⟨hk,hmono⟩ hR1;by_cases hlt:k<256
 ·have e1:((8:Int)+4*(k:Int)).toNat=8+4*k:=aA4;have e2:((12:Int)+4*(k:Int)).toNat=12+4*k:=aA4;have e3:12+4*k-(8+4*k)=4:=aA4;have hb:=mg (cC s (8+4*k) 4) (by rw[jj aA4];omega)
  have hfe:cM (cC s (8+4*k) 4)=dv s (k+1):=by
   unfold dv;rw[if_neg aA4,show 4+4*(k+1)=8+4*k by omega]
  rw[hfe]at hb;have hl:=sN s (k+1);have hl2:=sN s k;have hst:=MM s hlt;have hfl:=ke s k;have hfl1:=ke s (k+1);have hg0:=nq s (k+1) (i:=k) aA4;have hg1:=nq s (k+1) (i:=k+1) aA4;rw[if_pos aA4]at hg0 hg1;refine dq e1 e2 e3 @eV ?_;refine aw hb rfl rfl ?_;have e4:((k:Int)+1).toNat=k+1:=aA4;simp(disch:=first | omega | (simp only[Lx];omega))only[go_sem,simprocAttr,iQ,iR,N0,aBP,e4,hst,hg0,hg1]
  by_cases hm:dv s k<=dv s (k+1)
  ·have hi:¬((dv s (k+1):Nat):Int)<(dv s k:Nat):=aA4;refine au hi ?_;refine hR1 (k+1) _ aA4 ⟨aA4,λi h=>?_⟩ (.le vV);rcases aCx.1 h with h | rfl
   ·exact hmono i h
   ·exact hm
  ·have hi:((dv s (k+1):Nat):Int)<(dv s k:Nat):=aA4;refine au hi ?_;exact bad 3 (by unfold fF;rw[if_neg h0,if_neg (λh=>h h1),if_pos (λh=>hm (h k hlt))])
 ·obtain rfl:k=256:=aA4;have hok:xZ s:=λi h=>hmono i h;have hl:=sN s 256;have hfl:=ke s 256;have hg:=nq s 256 (i:=256) aA4;rw[if_pos aA4]at hg;obtain⟨n,hn⟩:∃n,n=dv s 256:=⟨_,rfl⟩;rw[<-hn]at hl hg
  have hb0:fF s=(if 1000<n then .error 2
   else if s.length<1072+28*n then .error 6
   else if eY s n%8≠0 then .error 3
   else match rowsP s n n with
    | .error e=>.error e
    | .ok l=>if Sh.ep (s.take (s.length-20))≠s.drop (s.length-20)then .error 5 else .ok (l,Sh.bW (cC s (s.length-40) 20))):=by
   unfold fF;rw[if_neg h0,if_neg (λh=>h h1),if_neg (λh=>h hok),<-hn]
  have hd0:((da s 256++[AV.str []]).drop 256).getD 0 .undef=.int .i64 n:=by
   rw[<-hg,aA5,List.getElem?_drop,aBO,List.getElem?_append_left aA4,aA5]
  have hd1:0<((da s 256++[AV.str []]).drop 256).length:=by simp;omega
  refine bl hd0 hd1 ?_;by_cases g1:1000<n
  ·have hi:(1000:Int)<(n:Int):=aA4;refine au hi ?_;exact bad 2 (by rw[hb0,if_pos g1])
  have hi:¬(1000:Int)<(n:Int):=aA4;rw[if_neg g1]at hb0;refine au hi ?_;by_cases g2:s.length<1072+28*n
  ·refine wW ?_;exact bad 6 (by rw[hb0,if_pos g2])
  rw[if_neg g2]at hb0;have ea:((1032:Int)+28*(n:Int)).toNat=1032+28*n:=aA4;have eb:((s.length:Int)-40).toNat-(1032+28*n)=eY s n:=by unfold eY;omega
  have efl:(cC s (1032+28*n) (eY s n)).length=eY s n:=jj (by unfold eY;omega);refine dq ea eb @eV efl ?_;by_cases g3:eY s n%8=0;rotate_left
  ·have hi:¬((eY s n:Nat):Int)%8=0:=aA4;refine bl efl hi ?_;exact bad 3 (by rw[hb0,if_pos g3])
  have hi:((eY s n:Nat):Int)%8=0:=aA4;rw[if_neg (λh=>h g3)]at hb0;refine bl efl hi ?_;obtain⟨F,hF⟩:∃F,F=cC s (1032+28*n) (eY s n):=⟨_,rfl⟩;rw[<-hF]at efl;rw[<-hF];have hn1:n<=1000:=aA4
  refine aZ hN (λp:Nat×List Rw=>⟨[(0,.str s),(4,.ab 240019 0),(6,.int .i64 n),(7,.str F),(80,.int .i64 n),(81,.int .i64 p.1)],[(240019,.var (.sl 240196 0 p.2.length::(da s 256++[.str []]))),(240196,.arr 3 (fp p.2))]⟩)
   (λp=>p.1<=n/\rowsP s n p.1=.ok p.2) (λp=>n-p.1) (0,[]) (.kn 240019 0 240196 3 (.al::(da s 256++[.str []])) rfl rfl rfl (.le (by simp(disch:=first | omega | (simp only[Lx];omega))only[go_sem,simprocAttr,aBE,aBG,x5,List.set_cons_zero,arE]))) ⟨aA4,rfl⟩ ?_
  rintro⟨k,l⟩ R2 ⟨hk2,hrows⟩ hR2;simp only at hk2 hrows;have hll:=qO hrows;by_cases hlt2:k<n
  ·have hrb:1032+20*k+20<=s.length:=aA4;have c1:((1032:Int)+20*(k:Int)).toNat=1032+20*k:=aA4;have c2:((1032:Int)+20*(k:Int)+20).toNat-(1032+20*k)=20:=aA4;have hrl:=jj hrb;change (gL s k).length=20 at hrl;have hrw:cC s (1032+20*k) 20=gL s k:=rfl;obtain⟨raw,hraw⟩:∃raw,raw=gL s k:=⟨_,rfl⟩;have hch:(raw.getD 0 0).toNat=o6 s k:=by rw[hraw];rfl
   rw[<-hraw]at hrl hrw;have hcb:=(raw.getD 0 0).toNat_lt;obtain⟨c,hc⟩:∃c,c=o6 s k:=⟨_,rfl⟩;rw[hch,<-hc]at hcb;rw[<-hc]at hch;have hf0:=nq s 256 (i:=c) aA4;have hf1:=nq s 256 (i:=c+1) aA4;rw[if_pos aA4]at hf0 hf1
   have badr:∀{h} (e:Int),iy s n k=.error e->R h (.ai [.lit (.pointer none),.int .i64 e]) [.undef]:=λe he=>bad e (by
    have h1:rowsP s n (k+1)=.error e:=by unfold rowsP;rw[hrows];simp only[he]
    rw[hb0,CQ (by omega:k+1<=n) h1])
   have bad3:∀{h},lY s k->R h (.ai [.lit (.pointer none),.int .i64 3]) [.undef]:=λh=>badr 3 (by unfold iy;rw[if_pos h]);refine dq c1 c2 @eV hrw ?_;have c3:((1032:Int)+20*(k:Int)-20).toNat=1012+20*k:=aA4;have c4:1032+20*k-(1012+20*k)=20:=aA4;have c5:((c:Int)+1).toNat=c+1:=aA4;obtain⟨prev,hprev⟩:∃prev,prev=cC s (1012+20*k) 20:=⟨_,rfl⟩;obtain⟨fc,hfc⟩:∃fc,fc=dv s c:=⟨_,rfl⟩;obtain⟨fd,hfd⟩:∃fd,fd=dv s (c+1):=⟨_,rfl⟩;rw[<-hfc]at hf0;rw[<-hfd]at hf1
   have hbr:lY s k↔(0<k/\Op.bytesLess prev raw=false)\/k<fc\/fd<=k:=by
    unfold lY;rw[<-hc,<-hraw,<-hprev,<-hfc,<-hfd]
   by_cases hA:0<k/\Op.bytesLess prev raw=false
   ·have hi:(0:Int)<(k:Int):=aA4;have hA2:=hA.2;simp(disch:=first | omega | (simp only[Lx];omega))only[go_sem,simprocAttr,hi,c1,c3,c4,eV,<-hprev,hA2,aBW,aB3]
    (repeat(first | refine fb ?_ | refine eZ ?_ | refine fa ?_)<;>simp(disch:=first | omega | (simp only[Lx];omega))only[go_sem,simprocAttr,hi,c1,c3,c4,eV,<-hprev,hA2,aBW,aB3])
    exact bad3 (hbr.2 (.inl hA))
   have hsel:(¬(0:Int)<(k:Int)/\¬(0:Int)<(k:Int))\/((0:Int)<(k:Int)/\Op.bytesLess prev raw=true):=by
    by_cases h:0<k
    ·exact .inr ⟨aA4,by
      cases h2:Op.bytesLess prev raw with
      | true=>rfl
      | false=>exact absurd ⟨h,h2⟩ hA⟩
    ·exact .inl ⟨aA4,aA4⟩
   by_cases hB:k<fc
   ·have hiB:(k:Int)<(fc:Int):=aA4;rcases hsel with⟨hi,hA2⟩ | ⟨hi,hA2⟩
    ·simp(disch:=first | omega | (simp only[Lx];omega))only[go_sem,simprocAttr,hi,c1,c3,c4,c5,eV,<-hprev,aBW,aB3,iQ,iR,aBP,hch,hf0,hf1]
     (repeat(first | refine fb ?_ | refine eZ ?_ | refine fa ?_)<;>simp(disch:=first | omega | (simp only[Lx];omega))only[go_sem,simprocAttr,hi,c1,c3,c4,c5,eV,<-hprev,aBW,aB3,iQ,iR,aBP,hch,hf0,hf1])
     exact bad3 (hbr.2 (.inr (.inl hB)))
    ·simp(disch:=first | omega | (simp only[Lx];omega))only[go_sem,simprocAttr,hi,hA2,c1,c3,c4,c5,eV,<-hprev,aBW,aB3,iQ,iR,aBP,hch,hf0,hf1]
     (repeat(first | refine fb ?_ | refine eZ ?_ | refine fa ?_)<;>simp(disch:=first | omega | (simp only[Lx];omega))only[go_sem,simprocAttr,hi,hA2,c1,c3,c4,c5,eV,<-hprev,aBW,aB3,iQ,iR,aBP,hch,hf0,hf1])
     exact bad3 (hbr.2 (.inr (.inl hB)))
   have hiB:¬(k:Int)<(fc:Int):=aA4;by_cases hC:fd<=k
   ·have hiC:(fd:Int)<=(k:Int):=aA4;rcases hsel with⟨hi,hA2⟩ | ⟨hi,hA2⟩
    ·simp(disch:=first | omega | (simp only[Lx];omega))only[go_sem,simprocAttr,hi,hiB,hiC,c1,c3,c4,c5,eV,<-hprev,aBW,aB3,iQ,iR,aBP,hch,hf0,hf1]
     (repeat(first | refine fb ?_ | refine eZ ?_ | refine fa ?_)<;>simp(disch:=first | omega | (simp only[Lx];omega))only[go_sem,simprocAttr,hi,hiB,hiC,c1,c3,c4,c5,eV,<-hprev,aBW,aB3,iQ,iR,aBP,hch,hf0,hf1])
     exact bad3 (hbr.2 (.inr (.inr hC)))
    ·simp(disch:=first | omega | (simp only[Lx];omega))only[go_sem,simprocAttr,hi,hiB,hiC,hA2,c1,c3,c4,c5,eV,<-hprev,aBW,aB3,iQ,iR,aBP,hch,hf0,hf1]
     (repeat(first | refine fb ?_ | refine eZ ?_ | refine fa ?_)<;>simp(disch:=first | omega | (simp only[Lx];omega))only[go_sem,simprocAttr,hi,hiB,hiC,hA2,c1,c3,c4,c5,eV,<-hprev,aBW,aB3,iQ,iR,aBP,hch,hf0,hf1])
     exact bad3 (hbr.2 (.inr (.inr hC)))
   have hiC:¬(fd:Int)<=(k:Int):=aA4;rcases hsel with⟨hi,hA2⟩ | ⟨hi,hA2⟩
   all_goals
    simp(disch:=first | omega | (simp only[Lx];omega))only[go_sem,simprocAttr,hi,hiB,hiC,hA2,c1,c3,c4,c5,eV,<-hprev,aBW,aB3,iQ,iR,aBP,hch,hf0,hf1]
    (repeat(first | refine fb ?_ | refine eZ ?_ | refine fa ?_)<;>simp(disch:=first | omega | (simp only[Lx];omega))only[go_sem,simprocAttr,hi,hiB,hiC,hA2,c1,c3,c4,c5,eV,<-hprev,aBW,aB3,iQ,iR,aBP,hch,hf0,hf1])
    have d1:((1032:Int)+24*(n:Int)+4*(k:Int)).toNat=1032+24*n+4*k:=aA4;have d2:((1032:Int)+24*(n:Int)+4*(k:Int)+4).toNat-(1032+24*n+4*k)=4:=aA4;have d3:((1032:Int)+20*(n:Int)+4*(k:Int)).toNat=1032+20*n+4*k:=aA4;have d4:((1032:Int)+20*(n:Int)+4*(k:Int)+4).toNat-(1032+20*n+4*k)=4:=aA4;have hbn:=mg (cC s (1032+24*n+4*k) 4) (by rw[jj aA4];omega);have hbc:=mg (cC s (1032+20*n+4*k) 4) (by rw[jj aA4];omega);have hnl:gD s n k<4294967296:=mY (n:=4) (by rw[jj aA4];omega);have hcl:cM (cC s (1032+20*n+4*k) 4)<4294967296:=mY (n:=4) (by rw[jj aA4];omega);rw[d1,d2];refine aw hbn rfl rfl ?_;change gD s n k<4294967296 at hnl;rw[show cM (cC s (1032+24*n+4*k) 4)=gD s n k from rfl]
    have hnb:¬lY s k:=λh=>by
     rcases hbr.1 h with h | h | h
     ·exact hA h
     ·exact hB h
     ·exact hC h
    have hpl:jR s n k=if 2147483648<=gD s n k then cM (cC F (8*(gD s n k-2147483648)) 8)else gD s n k:=by unfold jR;rw[<-hF]
    have hrp:iy s n k=(if 2147483648<=gD s n k/\eY s n/8<=gD s n k-2147483648 then .error 3
     else if 1099511627776<jR s n k then .error 2
     else .ok (Sh.bW raw,jR s n k,cM (cC s (1032+20*n+4*k) 4))):=by unfold iy;rw[if_neg hnb,hraw]
    obtain⟨q,hq⟩:∃q,q=gD s n k:=⟨_,rfl⟩;obtain⟨cr,hcr⟩:∃cr,cr=cM (cC s (1032+20*n+4*k) 4):=⟨_,rfl⟩;rw[<-hq]at hnl hpl hrp;rw[<-hcr]at hcl hrp hbc;rw[<-hq]
    have hpb:jR s n k<18446744073709551616:=by
     rw[hpl];split
     ·exact aBi (mY (n:=8) (by unfold cC;rw[aBa];exact Nat.min_le_left ..)) (by decide)
     ·omega
    refine wW ?_;refine dM (y:=Cod.Eu) hN (λ_:Unit=>⟨[(0,.str s),(4,.ab 240019 0),(6,.int .i64 n),(7,.str F),(8,.int .i64 k),(9,.str raw),(10,.int .u64 (jR s n k:Nat)),(80,.int .i64 n),(81,.int .i64 k)],[(240019,.var (.sl 240196 0 l.length::(da s 256++[.str []]))),(240196,.arr 3 (fp l))]⟩) (λ_=>¬(2147483648<=q/\eY s n/8<=q-2147483648)) (λR3 hR3=>?_) ?_
    ·by_cases hf:2147483648<=q
     ·have hif:(2147483648:Int)<=(q:Int):=aA4;rw[if_pos hf]at hpl;refine au hif ?_;obtain⟨j,hj⟩:∃j,j=q-2147483648:=⟨_,rfl⟩;have e1:((q:Int)-2147483648)=(j:Int):=aA4;by_cases hg:eY s n/8<=j
      ·have hig:((eY s n:Nat):Int)/8<=(j:Int):=aA4;refine ct e1 efl hig ?_;exact badr 3 (by rw[hrp,if_pos ⟨hf,aA4⟩])
      ·have hig:¬((eY s n:Nat):Int)/8<=(j:Int):=aA4;have h8:=mg (cC F (8*j) 8) (by rw[jj aA4];omega);have d5:((8:Int)*(j:Int)).toNat=8*j:=aA4;have d6:((8:Int)*(j:Int)+8).toNat-8*j=8:=aA4;refine ou e1 efl hig d5 d6 @eV ?_;refine aw h8 rfl rfl ?_;rw[<-hj]at hpl;rw[<-hpl];refine wW ?_;exact hR3 () _ (λh=>hg aA4) (.le vV)
     ·have hif:¬(2147483648:Int)<=(q:Int):=aA4;rw[if_neg hf]at hpl;refine au hif ?_;exact hR3 () _ (λh=>hf h.1) (.le (by rw[hpl];exact vV))
    ·intro _ hng;rw[if_neg hng]at hrp;obtain⟨pl,hpl2⟩:∃pl,pl=jR s n k:=⟨_,rfl⟩;rw[<-hpl2]at hrp;rw[<-hpl2];by_cases hbig:1099511627776<pl
     ·have hib:(1099511627776:Int)<(pl:Int):=aA4;refine au hib ?_;exact badr 2 (by rw[hrp,if_pos hbig])
     ·have hib:¬(1099511627776:Int)<(pl:Int):=aA4;rw[if_neg hbig]at hrp;have hhex:=Sh.pY raw aA4;refine dq hib d3 d4 @eV ?_;refine aw hhex rfl rfl ?_;refine wW ?_;refine aw hbc rfl rfl ?_;refine au @gj ?_;rw[CP,arC];refine⟨⟨arD,aA4⟩,hR2 (k+1,l++[(Sh.bW raw,pl,cr)]) _ (by simp only;omega) ⟨by simp only;omega,by simp only;unfold rowsP;rw[hrows];simp only[hrp]⟩ (.le (by rw[aA8,aBk];simp(disch:=first | omega | (simp only[Lx];omega))only[go_sem,simprocAttr,aBG,x5,aBE,aCm]))⟩
  ·obtain rfl:k=n:=aA4;rw[hrows]at hb0;simp only at hb0;have m1:((s.length:Int)-20).toNat=s.length-20:=aA4;have m2:((s.length:Int)-40).toNat=s.length-40:=aA4;have m3:s.length-20-(s.length-40)=20:=aA4;have jG:=Sh.uZ (s.take (s.length-20)) (by rw[aBa];omega);have hhx:=Sh.pY (cC s (s.length-40) 20) (by rw[jj aA4];omega);refine au m1 ?_;refine aw jG rfl rfl ?_;by_cases hsh:Sh.ep (s.take (s.length-20))=s.drop (s.length-20)
   ·refine cW hsh m1 m2 m3 @eV ?_;refine aw hhx rfl rfl ?_;have htk:(da s 256++[AV.str []]).take 257=da s 256:=aDl hfl;obtain⟨sm,hsm⟩:∃sm,sm=Sh.bW (cC s (s.length-40) 20):=⟨_,rfl⟩;rw[<-hsm]at hb0;rw[<-hsm];simp(disch:=first | omega | (simp only[Lx];omega))only[go_sem,simprocAttr,htk,aBV]
    have hb1:fF s=.ok (l,sm):=by rw[hb0,if_neg (λh=>h hsh)]
    refine hR.wk (h':=[]) (r':=.ai [aM s (l,sm),.int .i64 0]) (ar':=[.undef]) rfl (.bu 240196 (.mh 0 0 240019 [.ab 240019 0,.int .i64 0] (.ro 3 (fp l)::(da s 256++[.str sm])) vV (by rfl) ?_ ?_ (.le ?_))) ⟨rfl,by rw[hb1];rfl⟩
    ·simp(disch:=first | omega | (simp only[Lx];omega))only[go_sem,simprocAttr,aBG,MJ,CP,gj]
    ·simp[noRefC,ML]
    ·simp(disch:=first | omega | (simp only[Lx];omega))only[go_sem,simprocAttr,aM]
   ·refine au hsh ?_;exact bad 5 (by rw[hb0,if_pos hsh])
abbrev kf (L:List Rw):List Fi:=L.map λr=>(r.1,[])
theorem tu (L:List Rw):(kf L).length=L.length:=aBp ..
theorem tt (L:List Rw) (i:Nat):((kf L).getD i aX).1=(L.getD i fD).1:=by
 rw[aA5,aA5,List.getElem?_map];cases L[i]?<;>rfl
theorem ay8 (s:Bs) (p:List Rw×Bs):aJ Tryz.prog 36 [aM s p] (.int .i64 p.1.length):=by
 refine Cod.ay9 (λE R hN hR=>?_);refine au @gj ?_;exact hR.ro ⟨rfl,rfl⟩
theorem aAr (s:Bs) (p:List Rw×Bs):aJ Tryz.prog 38 [aM s p] (.str p.2):=by
 refine Cod.aAs (λE R hN hR=>?_);have h:(da s 256++[AV.str p.2]).getD 257 .undef=.str p.2:=by rw[aA5,List.getElem?_append_right (by rw[ke];omega),ke];rfl
 have hl:=ke s 256;refine au h ?_;exact hR.ro ⟨rfl,rfl⟩
theorem ayL (r:Rw) (t:Bs):aJ Tryz.prog 79 [ky r,.str t] (.int .i64 (Lib.compareBytes r.1 t)):=by
 refine Cod.ayM (λE R hN hR=>?_);simp(disch:=omega)only[go_sem,simprocAttr,ky];refine aw (xi r.1 t) rfl rfl ?_;refine wW ?_;exact hR.ro ⟨rfl,rfl⟩
abbrev yr (f:Nat):Value:=.func (.func f) #[] #[]
theorem ase (f:Nat) (hf:callable Tryz.prog f=true) (hsp:∀(r:Rw) (t:Bs),aJ Tryz.prog f [ky r,.str t] (.int .i64 (Lib.compareBytes r.1 t))) (L:List Rw) (t:Bs) (hs:eQ (kf L)) (hl:L.length<=100000) :
    aJ Tryz.prog 78 [.ro 3 (fp L),.str t,.lit (yr f)] (jm t (kf L)):=by
 refine Cod.asf (λE R hN hR=>?_);have hp:=nL t (kf L);have hkl:=tu L;refine au @gj ?_;refine aZ hN (λp:Nat×Nat=>⟨[(0,.ro 3 (fp L)),(1,.str t),(2,.lit (yr f)),(8,.int .i64 L.length),(9,.int .i64 p.1),(10,.int .i64 p.2)],[]⟩) (λp=>p.1<=posF t (kf L)/\posF t (kf L)<=p.2/\p.2<=L.length) (λp=>p.2-p.1) (0,L.length) (.le vV) ⟨aBB _,aA4,aA9 _⟩ ?_;rintro⟨i,j⟩ R1 ⟨h1,h2,h3⟩ hR1;simp only at h1 h2 h3;by_cases hlt:i<j
 ·have hm:IntKind.i64.wrap (((i:Int)+(j:Int)).fdiv (2^min 1 64))=(((i+j)/2:Nat):Int):=by
   rw[show(2:Int)^min 1 64=2 from rfl,aBI _ (by decide)];rw[jx ⟨aA4,aA4⟩];omega
  have hk:(i+j)/2<L.length:=aA4;have hpi:=tY t hs (k:=(i+j)/2) aA4;obtain⟨k,hk0⟩:∃k,k=(i+j)/2:=⟨_,rfl⟩;rw[<-hk0]at hm hk hpi;rw[tt]at hpi;have hik:i<=k:=aA4;have hkj:k<j:=aA4;clear hk0;refine ct @gj hm @mH ?_;refine sC hf ?_;refine aw (hsp (L.getD k fD) t) rfl rfl ?_;generalize Lib.compareBytes (L.getD k fD).1 t=c at *
  by_cases hc:c<0
  ·refine au hc ?_;exact hR1 (k+1,j) _ (by simp only;omega) ⟨by simp only;omega,by simp only;omega,h3⟩ (.le vV)
  ·refine au hc ?_;exact hR1 (i,k) _ (by simp only;omega) ⟨h1,by simp only;omega,by simp only;omega⟩ (.le vV)
 ·obtain rfl:i=j:=aA4;obtain rfl:i=posF t (kf L):=aA4;by_cases hlt:posF t (kf L)<L.length
  ·have hi:((posF t (kf L):Nat):Int)<(L.length:Int):=aA4;have hz:∀a:Bs,(Lib.compareBytes a t=0)↔a=t:=λa=>⟨j9,λe=>by rw[e];exact k8 t⟩;have hz:=hz (L.getD (posF t (kf L)) fD).1;refine ct @gj hi @mH ?_;refine fx @gj hi @mH ?_;refine yE hf ?_;refine iM (by simp(disch:=first | omega | (simp only[Lx];omega))only[go_sem,simprocAttr,ky]) (hsp (L.getD (posF t (kf L)) fD) t) vV rfl rfl ?_
   have hfo:∀b:Bool,decide (Lib.compareBytes (L.getD (posF t (kf L)) fD).1 t=0)=b->jm t (kf L)=.ai [.int .i64 (posF t (kf L):Nat),.bool b]:=by
    intro b hb;unfold jm;rw[tt,<-hb,decide_eq_decide.2 (⟨λh=>hz.2 h.2,λh=>⟨aA4,hz.1 h⟩⟩:(posF t (kf L)<(kf L).length/\(L.getD (posF t (kf L)) fD).1=t)↔Lib.compareBytes (L.getD (posF t (kf L)) fD).1 t=0)]
   generalize Lib.compareBytes (L.getD (posF t (kf L)) fD).1 t=c at *
   by_cases hc:c=0
   ·refine au hc ?_;refine bq hc ?_;exact hR.ro ⟨rfl,(hfo true (by simp[hc])).symm⟩
   ·refine au hc ?_;refine bq hc ?_;exact hR.ro ⟨rfl,(hfo false (by simp[hc])).symm⟩
  ·refine bl @gj hlt ?_;refine dI @gj hlt ?_;refine yD ?_;refine au hlt ?_;refine bq hlt ?_;exact hR.ro ⟨rfl,by unfold jm;rw[decide_eq_false (λh:_/\_=>hlt (by have:=h.1;omega))]⟩
abbrev gA (t:Bs) (L:List Rw):List Bs:=bL t (kf L)
set_option maxHeartbeats 1000000 in
theorem azm (s:Bs) (p:List Rw×Bs) (t:Bs) (hs:eQ (kf p.1)) (hl:p.1.length<=100000) (ht:t.length<=9223372036854775807) (hp:∀r∈p.1,r.1.length<=9223372036854775807) :
    aJ Tryz.prog 41 [aM s p,.str t] (.ro 1 (aV (gA t p.1))):=by
 refine Cod.azn (λE R hN hR=>?_);have hfl:=ke s 256;obtain⟨L,sm⟩:=p;simp only at hs hl hp hR |-;refine wW ?_;refine aw (ase _ (by kernel_rfl) ayL L t hs hl) rfl rfl ?_;have hpl:=nL t (kf L);have hkl:=tu L;obtain⟨o,ho⟩:∃o,o=posF t (kf L):=⟨_,rfl⟩;unfold gA bL at hR;rw[<-ho]at hpl hR;simp(disch:=first | omega | (simp only[Lx];omega))only[go_sem,simprocAttr,<-ho]
 obtain⟨D,hD⟩:∃D,D=(kf L).drop o:=⟨_,rfl⟩;have hDl:D.length=L.length-o:=by rw[hD,aBb,hkl]
 rw[<-hD]at hR
 refine aZ hN (λk:Nat=>⟨[(0,aM s (L,sm)),(1,.str t),(5,.sl 243048 0 (D.take k).length),(6,.int .i64 ((o+k:Nat):Int))],[(243048,.arr 1 (aV ((D.take k).map (·.1))))]⟩)
  (λk=>k<=D.length/\(D.take k).all (λf=>a7 t f.1)=true) (λk=>D.length-k) 0 (.nil 5 243048 1 rfl (.le (by simp(disch:=first | omega | (simp only[Lx];omega))only[go_sem,simprocAttr,rf,aB1,aCm,aBK,aBO]))) ⟨aBB _,by simp⟩ ?_
 rintro k R1 ⟨hk,hall⟩ hR1;have htl:(D.take k).length=k:=by rw[aBa];omega
 have hsub:aI (aV ((D.take k).map (·.1))) 0 k=aV ((D.take k).map (·.1)):=by
  unfold aI;rw[aBF,aA7 (by rw[b5,aBp,htl];omega)]
 have fin:(D.length<=k\/a7 t (D.getD k aX).1=false)->D.takeWhile (λf=>a7 t f.1)=D.take k:=λh=>u6 aX hall h;by_cases hlt:k<D.length
 ·have hsn:=dE aX D hlt;have hgd:(L.getD (o+k) fD).1=(D.getD k aX).1:=by rw[hD,xD,tt]
  have hmem:(L.getD (o+k) fD).1.length<=9223372036854775807:=hp _ (fy fD aA4);rw[hgd]at hmem;have hi:((o+k:Nat):Int)<(L.length:Int):=aA4;rw[htl];refine dq @gj hi @mH hgd ?_;refine lj @gj hi @mH hgd ?_;refine fN (iM vV (uL _ t hmem ht) vV rfl rfl ?_);generalize hx:D.getD k aX=x at *
  by_cases hb:a7 t x.1=true
  ·simp(disch:=first | omega | (simp only[Lx];omega))only[go_sem,simprocAttr,hb,gj,mH,hgd,b5,aBp,htl]
   rw[hsub,rb];refine⟨⟨iB,aA4⟩,hR1 (k+1) _ aA4 ⟨aA4,by rw[hsn,aCe,hall];simp[hb]⟩ (.le ?_)⟩;rw[hsn,aA8,htl,aBG];simp(disch:=first | omega | (simp only[Lx];omega))only[go_sem,simprocAttr,aBE,aCm,aBk]
  ·have hb:a7 t x.1=false:=by simpa using hb
   rw[fin (.inr hb)]at hR;refine au hb ?_;exact hR.wk (h':=[]) (r':=.ro 1 (aV ((D.take k).map (·.1)))) (ar':=[.undef,.undef]) rfl (.bu 243048 (.le (by simp(disch:=first | omega | (simp only[Lx];omega))only[go_sem,simprocAttr,b5,aBp,htl,iB,hsub]))) ⟨rfl,rfl⟩
 ·have hi:¬((o+k:Nat):Int)<(L.length:Int):=aA4;rw[fin (.inl aA4)]at hR;have hDk:D.take k=D:=aA7 aA4;rw[hDk]at hsub hR htl;rw[hDk,htl];refine bl @gj hi ?_;refine dI @gj hi ?_;exact hR.wk (h':=[]) (r':=.ro 1 (aV (D.map (·.1)))) (ar':=[.undef,.undef]) rfl (.bu 243048 (.le (by simp(disch:=first | omega | (simp only[Lx];omega))only[go_sem,simprocAttr,b5,aBp,htl,iB,hsub]))) ⟨rfl,rfl⟩
end Go.Proofs.YtoalcafkffmiiaaGreatDoor.Ls
