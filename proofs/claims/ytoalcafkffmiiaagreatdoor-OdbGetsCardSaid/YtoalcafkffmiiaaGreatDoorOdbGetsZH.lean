/- The proof, part 34 of 43. -/
import Derived.Test.YtoalcafkffmiiaaGreatDoorOdbGetsV
import Derived.Test.YtoalcafkffmiiaaGreatDoorOdbGetsZG
import Derived.Lib.SlicesCompact
set_option linter.all false
namespace Go.Proofs.YtoalcafkffmiiaaGreatDoor.Ls
open Eng
set_option maxRecDepth 10000
theorem DI:∀x y:Bs,x<y↔Lib.compareBytes x y<0
 | [],[]=>by simp[Lib.compareBytes]
 | [],_::_=>by simp[Lib.compareBytes]
 | _::_,[]=>by simp[Lib.compareBytes]
 | a::x,b::y=>by
  rw[List.cons_lt_cons_iff,DI x y];simp only[Lib.compareBytes];by_cases h1:a<b
  ·simp[h1]
  ·by_cases h2:b<a
   ·have:¬a=b:=λe=>by subst e;exact h1 h2
    simp[h1,h2,this]
   ·have:a=b:=by
     simp only[adF]at h1 h2;exact UInt8.toNat.inj acN
    simp[this]
theorem tH (x y:Bs):x<=y↔Lib.compareBytes x y<=0:=by
 have h:x<=y↔¬y<x:=Iff.rfl;rw[h,DI];have:=gr x y;omega
abbrev y5 (l:List Bs):List Bs:=l.mergeSort λx y=>decide (x<=y)
theorem Gc (l:List Bs):(y5 l).Pairwise (λa b=>Lib.compareBytes a b<=0):=by
 have h:=List.pairwise_mergeSort (le:=λx y:Bs=>decide (x<=y))
  (λa b c h1 h2=>by
   rw[decide_eq_true_eq,tH]at *
   exact l8 a b c h1 h2)
  (λa b=>by
   rw[aex,decide_eq_true_eq,decide_eq_true_eq,tH,tH];have:=gr a b
   omega) l
 exact h.imp (λh=>by rwa[decide_eq_true_eq,tH]at h)
theorem vE (l:List Bs) (i:Nat):(l.toArray[i]!)=l.getD i []:=by
 rw[acO,getElem!_def];simp only[List.getElem?_toArray];cases l[i]?<;>rfl
theorem Gi {l:List Bs} (h:l.Pairwise (λa b=>Lib.compareBytes a b<=0)) {i j:Nat} (hij:i<j) (hj:j<l.length):Lib.compareBytes (l.getD i []) (l.getD j [])<=0:=by
 have:=aeX.1 h i j acN hj hij
 rwa[acO,acO,List.getElem?_eq_getElem hj,List.getElem?_eq_getElem (by omega:i<l.length)]
theorem Bj {l:List Bs} (h:l.Pairwise (λa b=>Lib.compareBytes a b<=0)):∀m,m<=l.length->eP (Lib.compactUpTo l.toArray m)/\(∀x,x∈Lib.compactUpTo l.toArray m↔x∈l.take m)/\∀x∈Lib.compactUpTo l.toArray m,0<m/\Lib.compareBytes x (l.getD (m-1) [])<=0
 | 0,_=>⟨.nil,λx=>by simp[Lib.compactUpTo],λx hx=>by simp[Lib.compactUpTo]at hx⟩
 | m+1,hm=>by
  obtain⟨h1,h2,h3⟩:=Bj h m acN
  have hsn:l.take (m+1)=l.take m++[l.getD m []]:=by
   rw[List.take_succ,acO,List.getElem?_eq_getElem (by omega:m<l.length)];rfl
  rw[Lib.compactUpTo_succ,vE]
  have hk:Lib.keeps l.toArray m=decide (m=0\/l.getD m []≠l.getD (m-1) []):=by
   unfold Lib.keeps;rw[vE,vE]
  by_cases hkm:m=0\/l.getD m []≠l.getD (m-1) []
  ·rw[hk,decide_eq_true hkm,if_pos rfl];refine⟨?_,λx=>?_,λx hx=>⟨acN,?_⟩⟩
   ·unfold eP;rw[List.pairwise_append];refine⟨h1,aee _ _,λx hx y hy=>?_⟩;rw[ac8]at hy;subst hy;obtain⟨h4,h5⟩:=h3 x hx;have h6:=Gi h (i:=m-1) (j:=m) acN acN
    have h7:Lib.compareBytes (l.getD (m-1) []) (l.getD m [])≠0:=λe=>by
     rcases hkm with h0 | h0;omega
     exact h0 (lp e).symm
    exact sn h5 acN
   ·rw[hsn,adq,adq,h2]
   ·rw[show m+1-1=m by omega];rcases adq.1 hx with hx | hx
    ·obtain⟨h4,h5⟩:=h3 x hx;exact l8 _ _ _ h5 (Gi h acN acN)
    ·rw[ac8]at hx;rw[hx,l7];omega
  ·rw[hk,decide_eq_false hkm,if_neg (by simp),adz];have h0:m≠0:=λe=>hkm (.inl e);have he:l.getD m []=l.getD (m-1) []:=Decidable.not_not.1 (λe=>hkm (.inr e));refine⟨h1,λx=>?_,λx hx=>⟨acN,?_⟩⟩
   ·rw[h2,hsn,adq,ac8];constructor;exact .inl
    ·rintro(hx | rfl);exact hx
     ·rw[he];have hl:m-1<(l.take m).length:=by rw[acS];omega
      have h:=adB hl
      have e:(l.take m)[m-1]=l.getD (m-1) []:=by
       rw[List.getElem_take,acO,List.getElem?_eq_getElem (by omega:m-1<l.length)];rfl
      rwa[e]at h
   ·rw[show m+1-1=m by omega,he];exact(h3 x hx).2
theorem Bi {l:List Bs} (h:l.Pairwise (λa b=>Lib.compareBytes a b<=0)):eP (Lib.compact l)/\∀x,x∈Lib.compact l↔x∈l:=by
 obtain⟨h1,h2,_⟩:=Bj h l.length (acT _);refine⟨h1,λx=>?_⟩;have:=h2 x
 rwa[acP (acT _)]at this
def kU (l:List Bs):List Bs:=Lib.compact (y5 l)
theorem UE (l:List Bs):eP (kU l):=(Bi (Gc l)).1
theorem Ep (l:List Bs) (x:Bs):x∈kU l↔x∈l:=((Bi (Gc l)).2 x).trans List.mem_mergeSort
open Eng
set_option maxRecDepth 10000
theorem CS:∀i,i<16->∀j,j<16->i<j->(Sh.iW.getD i 0).toNat<(Sh.iW.getD j 0).toNat:=by decide +kernel
theorem CV:∀a b:Bs,Lib.compareBytes a b<0->a.length=b.length->Lib.compareBytes (Sh.bC a) (Sh.bC b)<0
 | [],[],h,_=>by simp[Lib.compareBytes]at h
 | [],_::_,_,h=>by simp at h
 | _::_,[],_,h=>by simp at h
 | x::a,y::b,h,hl=>by
  have e:∀(c:UInt8) (r:Bs),Sh.bC (c::r)=Sh.iW.getD (c.toNat/16) 0::Sh.iW.getD (c.toNat%16) 0::Sh.bC r:=λ_ _=>rfl;have hx:=x.toNat_lt;have hy:=y.toNat_lt;rw[e,e];simp only[Lib.compareBytes,adF]at h |-;by_cases h1:x.toNat<y.toNat
  ·by_cases h2:x.toNat/16<y.toNat/16
   ·rw[if_pos (CS _ acN _ acN h2)];omega
   ·have h3:x.toNat/16=y.toNat/16:=acN;rw[h3,if_neg (aeS _),if_neg (aeS _),if_pos (CS _ acN _ acN acN)];omega
  ·rw[if_neg h1]at h;by_cases h2:y.toNat<x.toNat
   ·rw[if_pos h2]at h;omega
   ·rw[if_neg h2]at h;have h3:x.toNat=y.toNat:=acN;rw[h3,if_neg (aeS _),if_neg (aeS _),if_neg (aeS _),if_neg (aeS _)];exact CV a b h (by simpa using hl)
theorem CR:∀k,k<16->fv (Sh.iW.getD k 0)=true:=by decide +kernel
theorem CT:∀t:Bs,(Sh.bC t).all fv=true
 | []=>rfl
 | c::r=>by
  have e:Sh.bC (c::r)=Sh.iW.getD (c.toNat/16) 0::Sh.iW.getD (c.toNat%16) 0::Sh.bC r:=rfl;have hc:=c.toNat_lt;rw[e,adY,adY,CT r,CR _ acN,CR _ acN];rfl
theorem O2 {t:Bs} (h:t.length=20):bJ (Sh.bC t)=true:=by
 have h1:=Sh.xg t;unfold bJ gz;rw[CT,afi,acX,decide_eq_true_eq,decide_eq_true_eq];omega
theorem xm {s:Bs} (h:bJ s=true):s.length=40/\s.all fv=true:=by
 unfold bJ gz at h;rw[acX,acX,decide_eq_true_eq,decide_eq_true_eq]at h;exact⟨h.2,h.1.1⟩
abbrev Rw:=Bs×Nat×Nat
abbrev dx:Rw:=([],0,0)
def kX (r:Rw):AV:=.agg [.str r.1,.int .i64 (r.2.1:Nat),.int .u32 (r.2.2:Nat)]
def cE (L:List Rw):List AV:=L.map kX
theorem kT {L:List Rw} {i:Nat} (h:i<L.length):nth (cE L) i=.agg [.str (L.getD i dx).1,.int .i64 ((L.getD i dx).2.1:Nat),.int .u32 ((L.getD i dx).2.2:Nat)]:=by
 simp[nth,cE,kX,acO,h]
theorem dL (L:List Rw):(cE L).length=L.length:=by simp[cE]
theorem yO {L:List Rw}:(cE L).all aL=true:=by simp[cE,kX,aL,cellsOf,isCell]
theorem FF {L:List Rw} {a:Bs} {b c:Nat}:cE L++[.agg [.str a,.int .i64 (b:Nat),.int .u32 (c:Nat)]]=cE (L++[(a,b,c)]):=by simp[cE,kX]
theorem FG:cE []=[]:=(rfl)
theorem uC (L:List Rw):aB (cE L) 0 L.length=cE L:=by
 unfold aB;rw[ado,acP (by rw[dL];omega)]
def bf (s:Bs) (o n:Nat):Bs:=(s.drop o).take n
theorem eQ {s:Bs} {o n:Nat} (h:o+n<=s.length):(bf s o n).length=n:=by unfold bf;rw[acS,acU];omega
theorem dk (s:Bs) (o n:Nat):(s.drop o).take n=bf s o n:=rfl
def bG (s:Bs) (i:Nat):Nat:=if i=0 then 0 else bW (bf s (4+4*i) 4)
def dJ (s:Bs) (k:Nat):List AV:=(List.range 257).map λi=>.int .i64 ((if i<=k then bG s i else 0:Nat):Int)
theorem me (s:Bs) (i:Nat):bG s i<4294967296:=by
 unfold bG;split;omega
 exact l5 (n:=4) (by unfold bf;rw[acS];omega)
theorem ly (s:Bs) (k:Nat):(dJ s k).length=257:=by simp[dJ]
theorem qh (s:Bs) (k:Nat) {i:Nat} (h:i<257):(dJ s k).getD i .undef=.int .i64 ((if i<=k then bG s i else 0:Nat):Int):=by
 unfold dJ;rw[acO,List.getElem?_map,List.getElem?_range h];rfl
theorem Ng (s:Bs) {k:Nat} (h:k<256):(dJ s k).set (k+1) (.int .i64 (bG s (k+1):Nat))=dJ s (k+1):=by
 apply aeQ;intro j;rw[List.getElem?_set,ly];unfold dJ;rw[List.getElem?_map,List.getElem?_map];by_cases hx:k+1=j
 ·subst hx;rw[if_pos rfl,if_pos acN,List.getElem?_range acN];simp
 ·rw[if_neg hx];by_cases hj:j<257
  ·rw[List.getElem?_range hj];simp only[adm];by_cases h1:j<=k
   ·rw[if_pos h1,if_pos acN]
   ·rw[if_neg h1,if_neg acN]
  ·rw[List.getElem?_eq_none (by simp;omega)];rfl
theorem B5 {id:Nat} {s:Bs} {k:Nat}:(dJ s k).map (killC id)=dJ s k:=by simp[dJ,killC]
theorem Nd {id sz:Nat} {es:List AV} {s:Bs} {k:Nat}:(dJ s k).map (cy id sz es)=dJ s k:=by simp[dJ,cy]
theorem Nf {s:Bs} {k:Nat}:(dJ s k).all noRefC=true:=by simp[dJ,noRefC]
theorem ka {a b:AV} {xs:List AV} {i:Nat} (h:i<xs.length):((a::(xs++[b])).drop (1+i)).getD 0 .undef=xs.getD i .undef:=by
 rw[ae0,adP,acO,List.getElem?_drop,adE,List.getElem?_append_left h,acO]
theorem kb {a b:AV} {xs:List AV} {i:Nat} (h:i<xs.length):0<((a::(xs++[b])).drop (1+i)).length:=by simp;omega
theorem NY {a b v:AV} {xs:List AV} {i:Nat} (h:i<xs.length):cI (a::(xs++[b])) (1+i) [v]=a::(xs.set i v++[b]):=by
 unfold cI;rw[ae0 1 i,adO,show i+1+[v].length=(i+1)+1 by simp,adP,aeE acN,aed acN,aep,if_pos h];simp
def cc (s:Bs) (n:Nat):Nat:=s.length-40-(1032+28*n)
def gI (s:Bs) (k:Nat):Bs:=bf s (1032+20*k) 20
def ou (s:Bs) (k:Nat):Nat:=((gI s k).getD 0 0).toNat
def kE (s:Bs) (k:Nat):Prop:=(0<k/\Op.bytesLess (bf s (1012+20*k) 20) (gI s k)=false)\/k<bG s (ou s k)\/bG s (ou s k+1)<=k
def eU (s:Bs) (n k:Nat):Nat:=bW (bf s (1032+24*n+4*k) 4)
def ir (s:Bs) (n k:Nat):Nat:=if 2147483648<=eU s n k then bW (bf (bf s (1032+28*n) (cc s n)) (8*(eU s n k-2147483648)) 8)else eU s n k
open Classical in
noncomputable def iw (s:Bs) (n j:Nat):Except Int Rw:=
 if kE s j then .error 3
 else if 2147483648<=eU s n j/\cc s n/8<=eU s n j-2147483648 then .error 3
 else if 1099511627776<ir s n j then .error 2
 else .ok (Sh.bC (gI s j),ir s n j,bW (bf s (1032+20*n+4*j) 4))
noncomputable def rowsP (s:Bs) (n:Nat):Nat->Except Int (List Rw)
 | 0=>.ok []
 | k+1=>match rowsP s n k with
  | .error e=>.error e
  | .ok l=>match iw s n k with
   | .error e=>.error e
   | .ok r=>.ok (l++[r])
theorem yP {s:Bs} {n:Nat} {e:Int}:∀{m k:Nat},k<=m->rowsP s n k=.error e->rowsP s n m=.error e
 | 0,k,h,h1=>by
  obtain rfl:k=0:=acN
  exact h1
 | m+1,k,h,h1=>by
  by_cases hk:k=m+1
  ·subst hk;exact h1
  ·unfold rowsP;rw[yP (by omega:k<=m) h1]
theorem pn {s:Bs} {n:Nat}:∀{k:Nat} {l:List Rw},rowsP s n k=.ok l->l.length=k
 | 0,l,h=>by
  unfold rowsP at h
  cases h;rfl
 | k+1,l,h=>by
  unfold rowsP at h
  cases h1:rowsP s n k with
  | error e=>rw[h1]at h;cases h
  | ok l'=>
   rw[h1]at h
   cases h2:iw s n k with
   | error e=>rw[h2]at h;cases h
   | ok r=>
    rw[h2]at h;cases h;rw[acQ,pn h1];rfl
def wI (s:Bs):Prop:=∀i,i<256->bG s i<=bG s (i+1)
open Classical in
noncomputable def dr (s:Bs):Except Int (List Rw×Bs):=
 let n:=bG s 256
 if s.length<1072 then .error 6
 else if s.take 8≠[255,116,79,99,0,0,0,2]then .error 3
 else if ¬wI s then .error 3
 else if 1000<n then .error 2
 else if s.length<1072+28*n then .error 6
 else if cc s n%8≠0 then .error 3
 else match rowsP s n n with
  | .error e=>.error e
  | .ok l=>if Sh.cY (s.take (s.length-20))≠s.drop (s.length-20)then .error 5 else .ok (l,Sh.bC (bf s (s.length-40) 20))
abbrev eT (s:Bs) (p:List Rw×Bs):AV:=.aq (.agg (.ro 3 (cE p.1)::(dJ s 256++[.str p.2])))
def parseA (s:Bs):Except Int (List Rw×Bs)->AV
 | .error e=>.af [.lit (.pointer none),.int .i64 e]
 | .ok p=>.af [eT s p,.int .i64 0]
set_option maxHeartbeats 4000000 in
theorem acx (s:Bs) (hs:s.length<=100000):ao Tryz.prog 34 [.str s] (parseA s (dr s)):=by
 refine Cod.acy (λE R hN hR=>?_);have bad:∀{h} (e:Int),dr s=.error e->R h (.af [.lit (.pointer none),.int .i64 e]) [.undef]:=λe he=>hR.ro ⟨rfl,by rw[he];rfl⟩;by_cases h0:s.length<1072
 ·refine wW ?_;exact bad 6 (by unfold dr;rw[if_pos h0])
 by_cases h1:s.take 8=[255,116,79,99,0,0,0,2];rotate_left
 ·refine ab h1 ?_;exact bad 3 (by unfold dr;rw[if_neg h0,if_pos h1])
 refine ab h1 ?_;refine aD hN (λk:Nat=>⟨[(0,.str s),(4,.aa 240019 0),(20,.int .i64 k)],[(240019,.var (.al::(dJ s k++[.str []])))]⟩) (λk=>k<=256/\∀i,i<k->bG s i<=bG s (i+1)) (λk=>256-k) 0 (.le (by simp(disch:=first | omega | (simp only[Lx];omega))only[go_sem,simprocAttr];rfl)) ⟨acN,λi h=>by omega⟩ ?_
 rintro k R1 ⟨hk,hmono⟩ hR1;by_cases hlt:k<256
 ·have e1:((8:Int)+4*(k:Int)).toNat=8+4*k:=acN;have e2:((12:Int)+4*(k:Int)).toNat=12+4*k:=acN;have e3:12+4*k-(8+4*k)=4:=acN;have hb:=oM (bf s (8+4*k) 4) (by rw[eQ acN];omega)
  have hfe:bW (bf s (8+4*k) 4)=bG s (k+1):=by
   unfold bG;rw[if_neg acN,show 4+4*(k+1)=8+4*k by omega]
  rw[hfe]at hb;have hl:=me s (k+1);have hl2:=me s k;have hst:=Ng s hlt;have hfl:=ly s k;have hfl1:=ly s (k+1);have hg0:=qh s (k+1) (i:=k) acN;have hg1:=qh s (k+1) (i:=k+1) acN;rw[if_pos acN]at hg0 hg1;refine bV e1 e2 e3 @dk ?_;refine ah hb rfl rfl ?_;have e4:((k:Int)+1).toNat=k+1:=acN;simp(disch:=first | omega | (simp only[Lx];omega))only[go_sem,simprocAttr,ka,kb,NY,adK,e4,hst,hg0,hg1]
  by_cases hm:bG s k<=bG s (k+1)
  ·have hi:¬((bG s (k+1):Nat):Int)<(bG s k:Nat):=acN;refine ab hi ?_;refine hR1 (k+1) _ acN ⟨acN,λi h=>?_⟩ (.le vV);rcases aec.1 h with h | rfl;exact hmono i h;exact hm
  ·have hi:((bG s (k+1):Nat):Int)<(bG s k:Nat):=acN;refine ab hi ?_;exact bad 3 (by unfold dr;rw[if_neg h0,if_neg (λh=>h h1),if_pos (λh=>hm (h k hlt))])
 ·obtain rfl:k=256:=acN;have hok:wI s:=λi h=>hmono i h;have hl:=me s 256;have hfl:=ly s 256;have hg:=qh s 256 (i:=256) acN;rw[if_pos acN]at hg;obtain⟨n,hn⟩:∃n,n=bG s 256:=⟨_,rfl⟩;rw[<-hn]at hl hg
  have hb0:dr s=(if 1000<n then .error 2
   else if s.length<1072+28*n then .error 6
   else if cc s n%8≠0 then .error 3
   else match rowsP s n n with
    | .error e=>.error e
    | .ok l=>if Sh.cY (s.take (s.length-20))≠s.drop (s.length-20)then .error 5 else .ok (l,Sh.bC (bf s (s.length-40) 20))):=by
   unfold dr;rw[if_neg h0,if_neg (λh=>h h1),if_neg (λh=>h hok),<-hn]
  have hd0:((dJ s 256++[AV.str []]).drop 256).getD 0 .undef=.int .i64 n:=by
   rw[<-hg,acO,List.getElem?_drop,adE,List.getElem?_append_left acN,acO]
  have hd1:0<((dJ s 256++[AV.str []]).drop 256).length:=by simp;omega
  refine aE hd0 hd1 ?_;by_cases g1:1000<n
  ·have hi:(1000:Int)<(n:Int):=acN;refine ab hi ?_;exact bad 2 (by rw[hb0,if_pos g1])
  have hi:¬(1000:Int)<(n:Int):=acN;rw[if_neg g1]at hb0;refine ab hi ?_;by_cases g2:s.length<1072+28*n
  ·refine wW ?_;exact bad 6 (by rw[hb0,if_pos g2])
  rw[if_neg g2]at hb0;have ea:((1032:Int)+28*(n:Int)).toNat=1032+28*n:=acN;have eb:((s.length:Int)-40).toNat-(1032+28*n)=cc s n:=by unfold cc;omega
  have efl:(bf s (1032+28*n) (cc s n)).length=cc s n:=eQ (by unfold cc;omega);refine bV ea eb @dk efl ?_;by_cases g3:cc s n%8=0;rotate_left
  ·have hi:¬((cc s n:Nat):Int)%8=0:=acN;refine aE efl hi ?_;exact bad 3 (by rw[hb0,if_pos g3])
  have hi:((cc s n:Nat):Int)%8=0:=acN;rw[if_neg (λh=>h g3)]at hb0;refine aE efl hi ?_;obtain⟨F,hF⟩:∃F,F=bf s (1032+28*n) (cc s n):=⟨_,rfl⟩;rw[<-hF]at efl;rw[<-hF];have hn1:n<=1000:=acN
  refine aD hN (λp:Nat×List Rw=>⟨[(0,.str s),(4,.aa 240019 0),(6,.int .i64 n),(7,.str F),(80,.int .i64 n),(81,.int .i64 p.1)],[(240019,.var (.sl 240196 0 p.2.length::(dJ s 256++[.str []]))),(240196,.arr 3 (cE p.2))]⟩)
   (λp=>p.1<=n/\rowsP s n p.1=.ok p.2) (λp=>n-p.1) (0,[]) (.mn 240019 0 240196 3 (.al::(dJ s 256++[.str []])) rfl rfl rfl (.le (by simp(disch:=first | omega | (simp only[Lx];omega))only[go_sem,simprocAttr,adi,adr,B5,List.set_cons_zero,FG]))) ⟨acN,rfl⟩ ?_
  rintro⟨k,l⟩ R2 ⟨hk2,hrows⟩ hR2;simp only at hk2 hrows;have hll:=pn hrows;by_cases hlt2:k<n
  ·have hrb:1032+20*k+20<=s.length:=acN;have c1:((1032:Int)+20*(k:Int)).toNat=1032+20*k:=acN;have c2:((1032:Int)+20*(k:Int)+20).toNat-(1032+20*k)=20:=acN;have hrl:=eQ hrb;change (gI s k).length=20 at hrl;have hrw:bf s (1032+20*k) 20=gI s k:=rfl;obtain⟨raw,hraw⟩:∃raw,raw=gI s k:=⟨_,rfl⟩;have hch:(raw.getD 0 0).toNat=ou s k:=by rw[hraw];rfl
   rw[<-hraw]at hrl hrw;have hcb:=(raw.getD 0 0).toNat_lt;obtain⟨c,hc⟩:∃c,c=ou s k:=⟨_,rfl⟩;rw[hch,<-hc]at hcb;rw[<-hc]at hch;have hf0:=qh s 256 (i:=c) acN;have hf1:=qh s 256 (i:=c+1) acN;rw[if_pos acN]at hf0 hf1
   have badr:∀{h} (e:Int),iw s n k=.error e->R h (.af [.lit (.pointer none),.int .i64 e]) [.undef]:=λe he=>bad e (by
    have h1:rowsP s n (k+1)=.error e:=by unfold rowsP;rw[hrows];simp only[he]
    rw[hb0,yP (by omega:k+1<=n) h1])
   have bad3:∀{h},kE s k->R h (.af [.lit (.pointer none),.int .i64 3]) [.undef]:=λh=>badr 3 (by unfold iw;rw[if_pos h]);refine bV c1 c2 @dk hrw ?_;have c3:((1032:Int)+20*(k:Int)-20).toNat=1012+20*k:=acN;have c4:1032+20*k-(1012+20*k)=20:=acN;have c5:((c:Int)+1).toNat=c+1:=acN;obtain⟨prev,hprev⟩:∃prev,prev=bf s (1012+20*k) 20:=⟨_,rfl⟩;obtain⟨fc,hfc⟩:∃fc,fc=bG s c:=⟨_,rfl⟩;obtain⟨fd,hfd⟩:∃fd,fd=bG s (c+1):=⟨_,rfl⟩;rw[<-hfc]at hf0;rw[<-hfd]at hf1
   have hbr:kE s k↔(0<k/\Op.bytesLess prev raw=false)\/k<fc\/fd<=k:=by
    unfold kE;rw[<-hc,<-hraw,<-hprev,<-hfc,<-hfd]
   by_cases hA:0<k/\Op.bytesLess prev raw=false
   ·have hi:(0:Int)<(k:Int):=acN;have hA2:=hA.2;simp(disch:=first | omega | (simp only[Lx];omega))only[go_sem,simprocAttr,hi,c1,c3,c4,dk,<-hprev,hA2,adA,adJ]
    (repeat(first | refine cC ?_ | refine cz ?_ | refine cB ?_)<;>simp(disch:=first | omega | (simp only[Lx];omega))only[go_sem,simprocAttr,hi,c1,c3,c4,dk,<-hprev,hA2,adA,adJ])
    exact bad3 (hbr.2 (.inl hA))
   have hsel:(¬(0:Int)<(k:Int)/\¬(0:Int)<(k:Int))\/((0:Int)<(k:Int)/\Op.bytesLess prev raw=true):=by
    by_cases h:0<k
    ·exact .inr ⟨acN,by
      cases h2:Op.bytesLess prev raw with
      | true=>rfl
      | false=>exact absurd ⟨h,h2⟩ hA⟩
    exact .inl ⟨acN,acN⟩
   by_cases hB:k<fc
   ·have hiB:(k:Int)<(fc:Int):=acN;rcases hsel with⟨hi,hA2⟩ | ⟨hi,hA2⟩
    ·simp(disch:=first | omega | (simp only[Lx];omega))only[go_sem,simprocAttr,hi,c1,c3,c4,c5,dk,<-hprev,adA,adJ,ka,kb,adK,hch,hf0,hf1]
     (repeat(first | refine cC ?_ | refine cz ?_ | refine cB ?_)<;>simp(disch:=first | omega | (simp only[Lx];omega))only[go_sem,simprocAttr,hi,c1,c3,c4,c5,dk,<-hprev,adA,adJ,ka,kb,adK,hch,hf0,hf1])
     exact bad3 (hbr.2 (.inr (.inl hB)))
    ·simp(disch:=first | omega | (simp only[Lx];omega))only[go_sem,simprocAttr,hi,hA2,c1,c3,c4,c5,dk,<-hprev,adA,adJ,ka,kb,adK,hch,hf0,hf1]
     (repeat(first | refine cC ?_ | refine cz ?_ | refine cB ?_)<;>simp(disch:=first | omega | (simp only[Lx];omega))only[go_sem,simprocAttr,hi,hA2,c1,c3,c4,c5,dk,<-hprev,adA,adJ,ka,kb,adK,hch,hf0,hf1])
     exact bad3 (hbr.2 (.inr (.inl hB)))
   have hiB:¬(k:Int)<(fc:Int):=acN;by_cases hC:fd<=k
   ·have hiC:(fd:Int)<=(k:Int):=acN;rcases hsel with⟨hi,hA2⟩ | ⟨hi,hA2⟩
    ·simp(disch:=first | omega | (simp only[Lx];omega))only[go_sem,simprocAttr,hi,hiB,hiC,c1,c3,c4,c5,dk,<-hprev,adA,adJ,ka,kb,adK,hch,hf0,hf1]
     (repeat(first | refine cC ?_ | refine cz ?_ | refine cB ?_)<;>simp(disch:=first | omega | (simp only[Lx];omega))only[go_sem,simprocAttr,hi,hiB,hiC,c1,c3,c4,c5,dk,<-hprev,adA,adJ,ka,kb,adK,hch,hf0,hf1])
     exact bad3 (hbr.2 (.inr (.inr hC)))
    ·simp(disch:=first | omega | (simp only[Lx];omega))only[go_sem,simprocAttr,hi,hiB,hiC,hA2,c1,c3,c4,c5,dk,<-hprev,adA,adJ,ka,kb,adK,hch,hf0,hf1]
     (repeat(first | refine cC ?_ | refine cz ?_ | refine cB ?_)<;>simp(disch:=first | omega | (simp only[Lx];omega))only[go_sem,simprocAttr,hi,hiB,hiC,hA2,c1,c3,c4,c5,dk,<-hprev,adA,adJ,ka,kb,adK,hch,hf0,hf1])
     exact bad3 (hbr.2 (.inr (.inr hC)))
   have hiC:¬(fd:Int)<=(k:Int):=acN;rcases hsel with⟨hi,hA2⟩ | ⟨hi,hA2⟩
   all_goals
    simp(disch:=first | omega | (simp only[Lx];omega))only[go_sem,simprocAttr,hi,hiB,hiC,hA2,c1,c3,c4,c5,dk,<-hprev,adA,adJ,ka,kb,adK,hch,hf0,hf1]
    (repeat(first | refine cC ?_ | refine cz ?_ | refine cB ?_)<;>simp(disch:=first | omega | (simp only[Lx];omega))only[go_sem,simprocAttr,hi,hiB,hiC,hA2,c1,c3,c4,c5,dk,<-hprev,adA,adJ,ka,kb,adK,hch,hf0,hf1])
    have d1:((1032:Int)+24*(n:Int)+4*(k:Int)).toNat=1032+24*n+4*k:=acN;have d2:((1032:Int)+24*(n:Int)+4*(k:Int)+4).toNat-(1032+24*n+4*k)=4:=acN;have d3:((1032:Int)+20*(n:Int)+4*(k:Int)).toNat=1032+20*n+4*k:=acN;have d4:((1032:Int)+20*(n:Int)+4*(k:Int)+4).toNat-(1032+20*n+4*k)=4:=acN;have hbn:=oM (bf s (1032+24*n+4*k) 4) (by rw[eQ acN];omega);have hbc:=oM (bf s (1032+20*n+4*k) 4) (by rw[eQ acN];omega);have hnl:eU s n k<4294967296:=l5 (n:=4) (by rw[eQ acN];omega);have hcl:bW (bf s (1032+20*n+4*k) 4)<4294967296:=l5 (n:=4) (by rw[eQ acN];omega);rw[d1,d2];refine ah hbn rfl rfl ?_;change eU s n k<4294967296 at hnl;rw[show bW (bf s (1032+24*n+4*k) 4)=eU s n k from rfl]
    have hnb:¬kE s k:=λh=>by
     rcases hbr.1 h with h | h | h;exact hA h;exact hB h;exact hC h
    have hpl:ir s n k=if 2147483648<=eU s n k then bW (bf F (8*(eU s n k-2147483648)) 8)else eU s n k:=by unfold ir;rw[<-hF]
    have hrp:iw s n k=(if 2147483648<=eU s n k/\cc s n/8<=eU s n k-2147483648 then .error 3
     else if 1099511627776<ir s n k then .error 2
     else .ok (Sh.bC raw,ir s n k,bW (bf s (1032+20*n+4*k) 4))):=by unfold iw;rw[if_neg hnb,hraw]
    obtain⟨q,hq⟩:∃q,q=eU s n k:=⟨_,rfl⟩;obtain⟨cr,hcr⟩:∃cr,cr=bW (bf s (1032+20*n+4*k) 4):=⟨_,rfl⟩;rw[<-hq]at hnl hpl hrp;rw[<-hcr]at hcl hrp hbc;rw[<-hq]
    have hpb:ir s n k<18446744073709551616:=by
     rw[hpl];split;exact ac3 (l5 (n:=8) (by unfold bf;rw[acS];exact Nat.min_le_left ..)) (by decide);omega
    refine wW ?_;refine cf (y:=Cod.acw) hN (λ_:Unit=>⟨[(0,.str s),(4,.aa 240019 0),(6,.int .i64 n),(7,.str F),(8,.int .i64 k),(9,.str raw),(10,.int .u64 (ir s n k:Nat)),(80,.int .i64 n),(81,.int .i64 k)],[(240019,.var (.sl 240196 0 l.length::(dJ s 256++[.str []]))),(240196,.arr 3 (cE l))]⟩) (λ_=>¬(2147483648<=q/\cc s n/8<=q-2147483648)) (λR3 hR3=>?_) ?_
    ·by_cases hf:2147483648<=q
     ·have hif:(2147483648:Int)<=(q:Int):=acN;rw[if_pos hf]at hpl;refine ab hif ?_;obtain⟨j,hj⟩:∃j,j=q-2147483648:=⟨_,rfl⟩;have e1:((q:Int)-2147483648)=(j:Int):=acN;by_cases hg:cc s n/8<=j
      ·have hig:((cc s n:Nat):Int)/8<=(j:Int):=acN;refine bp e1 efl hig ?_;exact badr 3 (by rw[hrp,if_pos ⟨hf,acN⟩])
      ·have hig:¬((cc s n:Nat):Int)/8<=(j:Int):=acN;have h8:=oM (bf F (8*j) 8) (by rw[eQ acN];omega);have d5:((8:Int)*(j:Int)).toNat=8*j:=acN;have d6:((8:Int)*(j:Int)+8).toNat-8*j=8:=acN;refine lg e1 efl hig d5 d6 @dk ?_;refine ah h8 rfl rfl ?_;rw[<-hj]at hpl;rw[<-hpl];refine wW ?_;exact hR3 () _ (λh=>hg acN) (.le vV)
     ·have hif:¬(2147483648:Int)<=(q:Int):=acN;rw[if_neg hf]at hpl;refine ab hif ?_;exact hR3 () _ (λh=>hf h.1) (.le (by rw[hpl];exact vV))
    ·intro _ hng;rw[if_neg hng]at hrp;obtain⟨pl,hpl2⟩:∃pl,pl=ir s n k:=⟨_,rfl⟩;rw[<-hpl2]at hrp;rw[<-hpl2];by_cases hbig:1099511627776<pl
     ·have hib:(1099511627776:Int)<(pl:Int):=acN;refine ab hib ?_;exact badr 2 (by rw[hrp,if_pos hbig])
     ·have hib:¬(1099511627776:Int)<(pl:Int):=acN;rw[if_neg hbig]at hrp;have hhex:=Sh.qs raw acN;refine bV hib d3 d4 @dk ?_;refine ah hhex rfl rfl ?_;refine wW ?_;refine ah hbc rfl rfl ?_;refine ab @dL ?_;rw[uC,FF];refine⟨⟨yO,acN⟩,hR2 (k+1,l++[(Sh.bC raw,pl,cr)]) _ (by simp only;omega) ⟨by simp only;omega,by simp only;unfold rowsP;rw[hrows];simp only[hrp]⟩ (.le (by rw[acQ,acW];simp(disch:=first | omega | (simp only[Lx];omega))only[go_sem,simprocAttr,adr,B5,adi,ad8]))⟩
  ·obtain rfl:k=n:=acN;rw[hrows]at hb0;simp only at hb0;have m1:((s.length:Int)-20).toNat=s.length-20:=acN;have m2:((s.length:Int)-40).toNat=s.length-40:=acN;have m3:s.length-20-(s.length-40)=20:=acN;have hsum:=Sh.uR (s.take (s.length-20)) (by rw[acS];omega);have hhx:=Sh.qs (bf s (s.length-40) 20) (by rw[eQ acN];omega);refine ab m1 ?_;refine ah hsum rfl rfl ?_;by_cases hsh:Sh.cY (s.take (s.length-20))=s.drop (s.length-20)
   ·refine cN hsh m1 m2 m3 @dk ?_;refine ah hhx rfl rfl ?_;have htk:(dJ s 256++[AV.str []]).take 257=dJ s 256:=afn hfl;obtain⟨sm,hsm⟩:∃sm,sm=Sh.bC (bf s (s.length-40) 20):=⟨_,rfl⟩;rw[<-hsm]at hb0;rw[<-hsm];simp(disch:=first | omega | (simp only[Lx];omega))only[go_sem,simprocAttr,htk,adz]
    have hb1:dr s=.ok (l,sm):=by rw[hb0,if_neg (λh=>h hsh)]
    refine hR.wk (h':=[]) (r':=.af [eT s (l,sm),.int .i64 0]) (ar':=[.undef]) rfl (.bj 240196 (.oO 0 0 240019 [.aa 240019 0,.int .i64 0] (.ro 3 (cE l)::(dJ s 256++[.str sm])) vV (by rfl) ?_ ?_ (.le ?_))) ⟨rfl,by rw[hb1];rfl⟩
    ·simp(disch:=first | omega | (simp only[Lx];omega))only[go_sem,simprocAttr,adr,Nd,uC,dL]
    ·simp[noRefC,Nf]
    ·simp(disch:=first | omega | (simp only[Lx];omega))only[go_sem,simprocAttr,eT]
   ·refine ab hsh ?_;exact bad 5 (by rw[hb0,if_pos hsh])
abbrev kf (L:List Rw):List Fi:=L.map λr=>(r.1,[])
theorem tB (L:List Rw):(kf L).length=L.length:=ac7 ..
theorem tz (L:List Rw) (i:Nat):((kf L).getD i aP).1=(L.getD i dx).1:=by
 rw[acO,acO,List.getElem?_map];cases L[i]?<;>rfl
theorem acp (s:Bs) (p:List Rw×Bs):ao Tryz.prog 36 [eT s p] (.int .i64 p.1.length):=by
 refine Cod.acq (λE R hN hR=>?_);refine ab @dL ?_;exact hR.ro ⟨rfl,rfl⟩
theorem acz (s:Bs) (p:List Rw×Bs):ao Tryz.prog 38 [eT s p] (.str p.2):=by
 refine Cod.acA (λE R hN hR=>?_);have h:(dJ s 256++[AV.str p.2]).getD 257 .undef=.str p.2:=by rw[acO,List.getElem?_append_right (by rw[ly];omega),ly];rfl
 have hl:=ly s 256;refine ab h ?_;exact hR.ro ⟨rfl,rfl⟩
theorem ach (r:Rw) (t:Bs):ao Tryz.prog 79 [kX r,.str t] (.int .i64 (Lib.compareBytes r.1 t)):=by
 refine Cod.aci (λE R hN hR=>?_);simp(disch:=omega)only[go_sem,simprocAttr,kX];refine ah (v8 r.1 t) rfl rfl ?_;refine wW ?_;exact hR.ro ⟨rfl,rfl⟩
abbrev Cl (f:Nat):Value:=.func (.func f) #[] #[]
theorem FK (f:Nat) (hf:callable Tryz.prog f=true) (hsp:∀(r:Rw) (t:Bs),ao Tryz.prog f [kX r,.str t] (.int .i64 (Lib.compareBytes r.1 t))) (L:List Rw) (t:Bs) (hs:eO (kf L)) (hl:L.length<=100000) :
    ao Tryz.prog 78 [.ro 3 (cE L),.str t,.lit (Cl f)] (kc t (kf L)):=by
 refine Cod.YM (λE R hN hR=>?_);have hp:=qM t (kf L);have hkl:=tB L;refine ab @dL ?_;refine aD hN (λp:Nat×Nat=>⟨[(0,.ro 3 (cE L)),(1,.str t),(2,.lit (Cl f)),(8,.int .i64 L.length),(9,.int .i64 p.1),(10,.int .i64 p.2)],[]⟩) (λp=>p.1<=posF t (kf L)/\posF t (kf L)<=p.2/\p.2<=L.length) (λp=>p.2-p.1) (0,L.length) (.le vV) ⟨ac9 _,acN,acT _⟩ ?_;rintro⟨i,j⟩ R1 ⟨h1,h2,h3⟩ hR1;simp only at h1 h2 h3;by_cases hlt:i<j
 ·have hm:IntKind.i64.wrap (((i:Int)+(j:Int)).fdiv (2^min 1 64))=(((i+j)/2:Nat):Int):=by
   rw[show(2:Int)^min 1 64=2 from rfl,adv _ (by decide)];rw[eE ⟨acN,acN⟩];omega
  have hk:(i+j)/2<L.length:=acN;have hpi:=yl t hs (k:=(i+j)/2) acN;obtain⟨k,hk0⟩:∃k,k=(i+j)/2:=⟨_,rfl⟩;rw[<-hk0]at hm hk hpi;rw[tz]at hpi;have hik:i<=k:=acN;have hkj:k<j:=acN;clear hk0;refine bp @dL hm @kT ?_;refine wA hf ?_;refine ah (hsp (L.getD k dx) t) rfl rfl ?_;generalize Lib.compareBytes (L.getD k dx).1 t=c at *
  by_cases hc:c<0
  ·refine ab hc ?_;exact hR1 (k+1,j) _ (by simp only;omega) ⟨by simp only;omega,by simp only;omega,h3⟩ (.le vV)
  ·refine ab hc ?_;exact hR1 (i,k) _ (by simp only;omega) ⟨h1,by simp only;omega,by simp only;omega⟩ (.le vV)
 ·obtain rfl:i=j:=acN;obtain rfl:i=posF t (kf L):=acN;by_cases hlt:posF t (kf L)<L.length
  ·have hi:((posF t (kf L):Nat):Int)<(L.length:Int):=acN;have hz:∀a:Bs,(Lib.compareBytes a t=0)↔a=t:=λa=>⟨lp,λe=>by rw[e];exact l7 t⟩;have hz:=hz (L.getD (posF t (kf L)) dx).1;refine bp @dL hi @kT ?_;refine gy @dL hi @kT ?_;refine CB hf ?_;refine gq (by simp(disch:=first | omega | (simp only[Lx];omega))only[go_sem,simprocAttr,kX]) (hsp (L.getD (posF t (kf L)) dx) t) vV rfl rfl ?_
   have hfo:∀b:Bool,decide (Lib.compareBytes (L.getD (posF t (kf L)) dx).1 t=0)=b->kc t (kf L)=.af [.int .i64 (posF t (kf L):Nat),.bool b]:=by
    intro b hb;unfold kc;rw[tz,<-hb,decide_eq_decide.2 (⟨λh=>hz.2 h.2,λh=>⟨acN,hz.1 h⟩⟩:(posF t (kf L)<(kf L).length/\(L.getD (posF t (kf L)) dx).1=t)↔Lib.compareBytes (L.getD (posF t (kf L)) dx).1 t=0)]
   generalize Lib.compareBytes (L.getD (posF t (kf L)) dx).1 t=c at *
   by_cases hc:c=0
   ·refine ab hc ?_;refine aV hc ?_;exact hR.ro ⟨rfl,(hfo true (by simp[hc])).symm⟩
   ·refine ab hc ?_;refine aV hc ?_;exact hR.ro ⟨rfl,(hfo false (by simp[hc])).symm⟩
  ·refine aE @dL hlt ?_;refine cO @dL hlt ?_;refine CA ?_;refine ab hlt ?_;refine aV hlt ?_;exact hR.ro ⟨rfl,by unfold kc;rw[decide_eq_false (λh:_/\_=>hlt (by have:=h.1;omega))]⟩
abbrev jb (t:Bs) (L:List Rw):List Bs:=bU t (kf L)
set_option maxHeartbeats 1000000 in
theorem acr (s:Bs) (p:List Rw×Bs) (t:Bs) (hs:eO (kf p.1)) (hl:p.1.length<=100000) (ht:t.length<=9223372036854775807) (hp:∀r∈p.1,r.1.length<=9223372036854775807) :
    ao Tryz.prog 41 [eT s p,.str t] (.ro 1 (au (jb t p.1))):=by
 refine Cod.acs (λE R hN hR=>?_);have hfl:=ly s 256;obtain⟨L,sm⟩:=p;simp only at hs hl hp hR |-;refine wW ?_;refine ah (FK _ (by kernel_rfl) ach L t hs hl) rfl rfl ?_;have hpl:=qM t (kf L);have hkl:=tB L;obtain⟨o,ho⟩:∃o,o=posF t (kf L):=⟨_,rfl⟩;unfold jb bU at hR;rw[<-ho]at hpl hR;simp(disch:=first | omega | (simp only[Lx];omega))only[go_sem,simprocAttr,<-ho]
 obtain⟨D,hD⟩:∃D,D=(kf L).drop o:=⟨_,rfl⟩;have hDl:D.length=L.length-o:=by rw[hD,acU,hkl]
 rw[<-hD]at hR
 refine aD hN (λk:Nat=>⟨[(0,eT s (L,sm)),(1,.str t),(5,.sl 243048 0 (D.take k).length),(6,.int .i64 ((o+k:Nat):Int))],[(243048,.arr 1 (au ((D.take k).map (·.1))))]⟩)
  (λk=>k<=D.length/\(D.take k).all (λf=>aJ t f.1)=true) (λk=>D.length-k) 0 (.nil 5 243048 1 rfl (.le (by simp(disch:=first | omega | (simp only[Lx];omega))only[go_sem,simprocAttr,lT,adI,ad8,adn,adE]))) ⟨ac9 _,by simp⟩ ?_
 rintro k R1 ⟨hk,hall⟩ hR1;have htl:(D.take k).length=k:=by rw[acS];omega
 have hsub:aB (au ((D.take k).map (·.1))) 0 k=au ((D.take k).map (·.1)):=by
  unfold aB;rw[ado,acP (by rw[aZ,ac7,htl];omega)]
 have fin:(D.length<=k\/aJ t (D.getD k aP).1=false)->D.takeWhile (λf=>aJ t f.1)=D.take k:=λh=>zo aP hall h;by_cases hlt:k<D.length
 ·have hsn:=dj aP D hlt;have hgd:(L.getD (o+k) dx).1=(D.getD k aP).1:=by rw[hD,BJ,tz]
  have hmem:(L.getD (o+k) dx).1.length<=9223372036854775807:=hp _ (dT dx acN);rw[hgd]at hmem;have hi:((o+k:Nat):Int)<(L.length:Int):=acN;rw[htl];refine bV @dL hi @kT hgd ?_;refine kJ @dL hi @kT hgd ?_;refine eI (gq vV (yV _ t hmem ht) vV rfl rfl ?_);generalize hx:D.getD k aP=x at *
  by_cases hb:aJ t x.1=true
  ·simp(disch:=first | omega | (simp only[Lx];omega))only[go_sem,simprocAttr,hb,dL,kT,hgd,aZ,ac7,htl]
   rw[hsub,ji];refine⟨⟨dM,acN⟩,hR1 (k+1) _ acN ⟨acN,by rw[hsn,adU,hall];simp[hb]⟩ (.le ?_)⟩;rw[hsn,acQ,htl,adr];simp(disch:=first | omega | (simp only[Lx];omega))only[go_sem,simprocAttr,adi,ad8,acW]
  ·have hb:aJ t x.1=false:=by simpa using hb
   rw[fin (.inr hb)]at hR;refine ab hb ?_;exact hR.wk (h':=[]) (r':=.ro 1 (au ((D.take k).map (·.1)))) (ar':=[.undef,.undef]) rfl (.bj 243048 (.le (by simp(disch:=first | omega | (simp only[Lx];omega))only[go_sem,simprocAttr,aZ,ac7,htl,dM,hsub]))) ⟨rfl,rfl⟩
 ·have hi:¬((o+k:Nat):Int)<(L.length:Int):=acN;rw[fin (.inl acN)]at hR;have hDk:D.take k=D:=acP acN;rw[hDk]at hsub hR htl;rw[hDk,htl];refine aE @dL hi ?_;refine cO @dL hi ?_;exact hR.wk (h':=[]) (r':=.ro 1 (au (D.map (·.1)))) (ar':=[.undef,.undef]) rfl (.bj 243048 (.le (by simp(disch:=first | omega | (simp only[Lx];omega))only[go_sem,simprocAttr,aZ,ac7,htl,dM,hsub]))) ⟨rfl,rfl⟩
end Go.Proofs.YtoalcafkffmiiaaGreatDoor.Ls
