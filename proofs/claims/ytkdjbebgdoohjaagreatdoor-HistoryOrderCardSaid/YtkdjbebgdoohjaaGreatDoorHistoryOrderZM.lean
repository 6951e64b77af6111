/- The proof, part 39 of 50. -/
import Derived.Test.YtkdjbebgdoohjaaGreatDoorHistoryOrderZJ
import Derived.Test.YtkdjbebgdoohjaaGreatDoorHistoryOrderZL
import Derived.Lib.SlicesCompact
import Derived.Shelf.Strings.Prefix
set_option linter.all false
namespace Go.Proofs.YtkdjbebgdoohjaaGreatDoor.Ls
open Eng
set_option maxRecDepth 10000
open Eng
set_option maxRecDepth 10000
theorem Br:∀i,i<16->∀j,j<16->i<j->(Sh.gD.getD i 0).toNat<(Sh.gD.getD j 0).toNat:=by decide +kernel
theorem Bv:∀a b:Bs,Lib.compareBytes a b<0->a.length=b.length->Lib.compareBytes (Sh.bw a) (Sh.bw b)<0
 | [],[],h,_=>by simp[Lib.compareBytes]at h
 | [],_::_,_,h=>by simp at h
 | _::_,[],_,h=>by simp at h
 | x::a,y::b,h,hl=>by
  have e:∀(c:UInt8) (r:Bs),Sh.bw (c::r)=Sh.gD.getD (c.toNat/16) 0::Sh.gD.getD (c.toNat%16) 0::Sh.bw r:=λ_ _=>rfl;have hx:=x.toNat_lt;have hy:=y.toNat_lt;rw[e,e];simp only[Lib.compareBytes,aat]at h |-;by_cases h1:x.toNat<y.toNat
  ·by_cases h2:x.toNat/16<y.toNat/16
   ·rw[if_pos (Br _ ZG _ ZG h2)];omega
   ·have h3:x.toNat/16=y.toNat/16:=ZG;rw[h3,if_neg (abp _),if_neg (abp _),if_pos (Br _ ZG _ ZG ZG)];omega
  ·rw[if_neg h1]at h;by_cases h2:y.toNat<x.toNat
   ·rw[if_pos h2]at h;omega
   ·rw[if_neg h2]at h;have h3:x.toNat=y.toNat:=ZG;rw[h3,if_neg (abp _),if_neg (abp _),if_neg (abp _),if_neg (abp _)];exact Bv a b h (by simpa using hl)
theorem Bq:∀k,k<16->fK (Sh.gD.getD k 0)=true:=by decide +kernel
theorem Bt:∀t:Bs,(Sh.bw t).all fK=true
 | []=>rfl
 | c::r=>by
  have e:Sh.bw (c::r)=Sh.gD.getD (c.toNat/16) 0::Sh.gD.getD (c.toNat%16) 0::Sh.bw r:=rfl;have hc:=c.toNat_lt;rw[e,aa9,aa9,Bt r,Bq _ ZG,Bq _ ZG];rfl
theorem M4 {t:Bs} (h:t.length=20):cf (Sh.bw t)=true:=by
 have h1:=Sh.vP t;unfold cf iw;rw[Bt,ab0,ZS,decide_eq_true_eq,decide_eq_true_eq];omega
theorem BB {s:Bs} (h:cf s=true):s.length=40/\s.all fK=true:=by
 unfold cf iw at h;rw[ZS,ZS,decide_eq_true_eq,decide_eq_true_eq]at h;exact⟨h.2,h.1.1⟩
abbrev Rw:=Bs×Nat×Nat
abbrev eV:Rw:=([],0,0)
def ly (r:Rw):AV:=.agg [.str r.1,.int .i64 (r.2.1:Nat),.int .u32 (r.2.2:Nat)]
def cR (L:List Rw):List AV:=L.map ly
theorem pN {L:List Rw} {i:Nat} (h:i<L.length):nth (cR L) i=.agg [.str (L.getD i eV).1,.int .i64 ((L.getD i eV).2.1:Nat),.int .u32 ((L.getD i eV).2.2:Nat)]:=by
 simp[nth,cR,ly,ZH,h]
theorem fS (L:List Rw):(cR L).length=L.length:=by simp[cR]
theorem xE {L:List Rw}:(cR L).all aD=true:=by simp[cR,ly,aD,cellsOf,isCell]
theorem DB {L:List Rw} {a:Bs} {b c:Nat}:cR L++[.agg [.str a,.int .i64 (b:Nat),.int .u32 (c:Nat)]]=cR (L++[(a,b,c)]):=by simp[cR,ly]
theorem DC:cR []=[]:=(rfl)
theorem tc (L:List Rw):az (cR L) 0 L.length=cR L:=by
 unfold az;rw[aae,ZK (by rw[fS];omega)]
def aU (s:Bs) (o n:Nat):Bs:=(s.drop o).take n
theorem dF {s:Bs} {o n:Nat} (h:o+n<=s.length):(aU s o n).length=n:=by unfold aU;rw[ZL,ZN];omega
theorem cB (s:Bs) (o n:Nat):(s.drop o).take n=aU s o n:=rfl
def bm (s:Bs) (i:Nat):Nat:=if i=0 then 0 else bE (aU s (4+4*i) 4)
def cP (s:Bs) (k:Nat):List AV:=(List.range 257).map λi=>.int .i64 ((if i<=k then bm s i else 0:Nat):Int)
theorem kV (s:Bs) (i:Nat):bm s i<4294967296:=by
 unfold bm;split;omega
 exact kO (n:=4) (by unfold aU;rw[ZL];omega)
theorem kU (s:Bs) (k:Nat):(cP s k).length=257:=by simp[cP]
theorem o4 (s:Bs) (k:Nat) {i:Nat} (h:i<257):(cP s k).getD i .undef=.int .i64 ((if i<=k then bm s i else 0:Nat):Int):=by
 unfold cP;rw[ZH,List.getElem?_map,List.getElem?_range h];rfl
theorem Ld (s:Bs) {k:Nat} (h:k<256):(cP s k).set (k+1) (.int .i64 (bm s (k+1):Nat))=cP s (k+1):=by
 apply abV;intro j;rw[List.getElem?_set,kU];unfold cP;rw[List.getElem?_map,List.getElem?_map];by_cases hx:k+1=j
 ·subst hx;rw[if_pos rfl,if_pos ZG,List.getElem?_range ZG];simp
 ·rw[if_neg hx];by_cases hj:j<257
  ·rw[List.getElem?_range hj];simp only[aah];by_cases h1:j<=k
   ·rw[if_pos h1,if_pos ZG]
   ·rw[if_neg h1,if_neg ZG]
  ·rw[List.getElem?_eq_none (by simp;omega)];rfl
theorem AF {id:Nat} {s:Bs} {k:Nat}:(cP s k).map (killC id)=cP s k:=by simp[cP,killC]
theorem Lb {id sz:Nat} {es:List AV} {s:Bs} {k:Nat}:(cP s k).map (bP id sz es)=cP s k:=by simp[cP,bP]
theorem Lc {s:Bs} {k:Nat}:(cP s k).all noRefC=true:=by simp[cP,noRefC]
theorem iV {a b:AV} {xs:List AV} {i:Nat} (h:i<xs.length):((a::(xs++[b])).drop (1+i)).getD 0 .undef=xs.getD i .undef:=by
 rw[abA,aav,ZH,List.getElem?_drop,aaz,List.getElem?_append_left h,ZH]
theorem iW {a b:AV} {xs:List AV} {i:Nat} (h:i<xs.length):0<((a::(xs++[b])).drop (1+i)).length:=by simp;omega
theorem LU {a b v:AV} {xs:List AV} {i:Nat} (h:i<xs.length):bR (a::(xs++[b])) (1+i) [v]=a::(xs.set i v++[b]):=by
 unfold bR;rw[abA 1 i,aaA,show i+1+[v].length=(i+1)+1 by simp,aav,abd ZG,aaD ZG,aaZ,if_pos h];simp
def bK (s:Bs) (n:Nat):Nat:=s.length-40-(1032+28*n)
def fw (s:Bs) (k:Nat):Bs:=aU s (1032+20*k) 20
def mT (s:Bs) (k:Nat):Nat:=((fw s k).getD 0 0).toNat
def jy (s:Bs) (k:Nat):Prop:=(0<k/\Op.bytesLess (aU s (1012+20*k) 20) (fw s k)=false)\/k<bm s (mT s k)\/bm s (mT s k+1)<=k
def dJ (s:Bs) (n k:Nat):Nat:=bE (aU s (1032+24*n+4*k) 4)
def fO (s:Bs) (n k:Nat):Nat:=if 2147483648<=dJ s n k then bE (aU (aU s (1032+28*n) (bK s n)) (8*(dJ s n k-2147483648)) 8)else dJ s n k
open Classical in
noncomputable def fR (s:Bs) (n j:Nat):Except Int Rw:=
 if jy s j then .error 3
 else if 2147483648<=dJ s n j/\bK s n/8<=dJ s n j-2147483648 then .error 3
 else if 1099511627776<fO s n j then .error 2
 else .ok (Sh.bw (fw s j),fO s n j,bE (aU s (1032+20*n+4*j) 4))
noncomputable def rowsP (s:Bs) (n:Nat):Nat->Except Int (List Rw)
 | 0=>.ok []
 | k+1=>match rowsP s n k with
  | .error e=>.error e
  | .ok l=>match fR s n k with
   | .error e=>.error e
   | .ok r=>.ok (l++[r])
theorem xF {s:Bs} {n:Nat} {e:Int}:∀{m k:Nat},k<=m->rowsP s n k=.error e->rowsP s n m=.error e
 | 0,k,h,h1=>by
  obtain rfl:k=0:=ZG
  exact h1
 | m+1,k,h,h1=>by
  by_cases hk:k=m+1
  ·subst hk;exact h1
  ·unfold rowsP;rw[xF (by omega:k<=m) h1]
theorem nQ {s:Bs} {n:Nat}:∀{k:Nat} {l:List Rw},rowsP s n k=.ok l->l.length=k
 | 0,l,h=>by
  unfold rowsP at h
  cases h;rfl
 | k+1,l,h=>by
  unfold rowsP at h
  cases h1:rowsP s n k with
  | error e=>rw[h1]at h;cases h
  | ok l'=>
   rw[h1]at h
   cases h2:fR s n k with
   | error e=>rw[h2]at h;cases h
   | ok r=>
    rw[h2]at h;cases h;rw[ZJ,nQ h1];rfl
def vn (s:Bs):Prop:=∀i,i<256->bm s i<=bm s (i+1)
open Classical in
noncomputable def cL (s:Bs):Except Int (List Rw×Bs):=
 let n:=bm s 256
 if s.length<1072 then .error 6
 else if s.take 8≠[255,116,79,99,0,0,0,2]then .error 3
 else if ¬vn s then .error 3
 else if 1000<n then .error 2
 else if s.length<1072+28*n then .error 6
 else if bK s n%8≠0 then .error 3
 else match rowsP s n n with
  | .error e=>.error e
  | .ok l=>if Sh.cS (s.take (s.length-20))≠s.drop (s.length-20)then .error 5 else .ok (l,Sh.bw (aU s (s.length-40) 20))
abbrev ek (s:Bs) (p:List Rw×Bs):AV:=.ao (.agg (.ro 3 (cR p.1)::(cP s 256++[.str p.2])))
def parseA (s:Bs):Except Int (List Rw×Bs)->AV
 | .error e=>.ab [.lit (.pointer none),.int .i64 e]
 | .ok p=>.ab [ek s p,.int .i64 0]
set_option maxHeartbeats 4000000 in
theorem Zi (s:Bs) (hs:s.length<=100000):aw Tryz.prog 34 [.str s] (parseA s (cL s)):=by
 refine Cod.Zj (λE R hN hR=>?_);have bad:∀{h} (e:Int),cL s=.error e->R h (.ab [.lit (.pointer none),.int .i64 e]) [.undef]:=λe he=>hR.ro ⟨rfl,by rw[he];rfl⟩;by_cases h0:s.length<1072
 ·refine wW ?_;exact bad 6 (by unfold cL;rw[if_pos h0])
 by_cases h1:s.take 8=[255,116,79,99,0,0,0,2];rotate_left
 ·refine ah h1 ?_;exact bad 3 (by unfold cL;rw[if_neg h0,if_pos h1])
 refine ah h1 ?_;refine aP hN (λk:Nat=>⟨[(0,.str s),(4,.aa 240019 0),(20,.int .i64 k)],[(240019,.var (.aj::(cP s k++[.str []])))]⟩) (λk=>k<=256/\∀i,i<k->bm s i<=bm s (i+1)) (λk=>256-k) 0 (.le (by simp(disch:=first | omega | (simp only[Lx];omega))only[go_sem,simprocAttr];rfl)) ⟨ZG,λi h=>by omega⟩ ?_
 rintro k R1 ⟨hk,hmono⟩ hR1;by_cases hlt:k<256
 ·have e1:((8:Int)+4*(k:Int)).toNat=8+4*k:=ZG;have e2:((12:Int)+4*(k:Int)).toNat=12+4*k:=ZG;have e3:12+4*k-(8+4*k)=4:=ZG;have hb:=nw (aU s (8+4*k) 4) (by rw[dF ZG];omega)
  have hfe:bE (aU s (8+4*k) 4)=bm s (k+1):=by
   unfold bm;rw[if_neg ZG,show 4+4*(k+1)=8+4*k by omega]
  rw[hfe]at hb;have hl:=kV s (k+1);have hl2:=kV s k;have hst:=Ld s hlt;have hfl:=kU s k;have hfl1:=kU s (k+1);have hg0:=o4 s (k+1) (i:=k) ZG;have hg1:=o4 s (k+1) (i:=k+1) ZG;rw[if_pos ZG]at hg0 hg1;refine cq e1 e2 e3 @cB ?_;refine an hb rfl rfl ?_;have e4:((k:Int)+1).toNat=k+1:=ZG;simp(disch:=first | omega | (simp only[Lx];omega))only[go_sem,simprocAttr,iV,iW,LU,aay,e4,hst,hg0,hg1]
  by_cases hm:bm s k<=bm s (k+1)
  ·have hi:¬((bm s (k+1):Nat):Int)<(bm s k:Nat):=ZG;refine ah hi ?_;refine hR1 (k+1) _ ZG ⟨ZG,λi h=>?_⟩ (.le vV);rcases aaO.1 h with h | rfl;exact hmono i h;exact hm
  ·have hi:((bm s (k+1):Nat):Int)<(bm s k:Nat):=ZG;refine ah hi ?_;exact bad 3 (by unfold cL;rw[if_neg h0,if_neg (λh=>h h1),if_pos (λh=>hm (h k hlt))])
 ·obtain rfl:k=256:=ZG;have hok:vn s:=λi h=>hmono i h;have hl:=kV s 256;have hfl:=kU s 256;have hg:=o4 s 256 (i:=256) ZG;rw[if_pos ZG]at hg;obtain⟨n,hn⟩:∃n,n=bm s 256:=⟨_,rfl⟩;rw[<-hn]at hl hg
  have hb0:cL s=(if 1000<n then .error 2
   else if s.length<1072+28*n then .error 6
   else if bK s n%8≠0 then .error 3
   else match rowsP s n n with
    | .error e=>.error e
    | .ok l=>if Sh.cS (s.take (s.length-20))≠s.drop (s.length-20)then .error 5 else .ok (l,Sh.bw (aU s (s.length-40) 20))):=by
   unfold cL;rw[if_neg h0,if_neg (λh=>h h1),if_neg (λh=>h hok),<-hn]
  have hd0:((cP s 256++[AV.str []]).drop 256).getD 0 .undef=.int .i64 n:=by
   rw[<-hg,ZH,List.getElem?_drop,aaz,List.getElem?_append_left ZG,ZH]
  have hd1:0<((cP s 256++[AV.str []]).drop 256).length:=by simp;omega
  refine aE hd0 hd1 ?_;by_cases g1:1000<n
  ·have hi:(1000:Int)<(n:Int):=ZG;refine ah hi ?_;exact bad 2 (by rw[hb0,if_pos g1])
  have hi:¬(1000:Int)<(n:Int):=ZG;rw[if_neg g1]at hb0;refine ah hi ?_;by_cases g2:s.length<1072+28*n
  ·refine wW ?_;exact bad 6 (by rw[hb0,if_pos g2])
  rw[if_neg g2]at hb0;have ea:((1032:Int)+28*(n:Int)).toNat=1032+28*n:=ZG;have eb:((s.length:Int)-40).toNat-(1032+28*n)=bK s n:=by unfold bK;omega
  have efl:(aU s (1032+28*n) (bK s n)).length=bK s n:=dF (by unfold bK;omega);refine cq ea eb @cB efl ?_;by_cases g3:bK s n%8=0;rotate_left
  ·have hi:¬((bK s n:Nat):Int)%8=0:=ZG;refine aE efl hi ?_;exact bad 3 (by rw[hb0,if_pos g3])
  have hi:((bK s n:Nat):Int)%8=0:=ZG;rw[if_neg (λh=>h g3)]at hb0;refine aE efl hi ?_;obtain⟨F,hF⟩:∃F,F=aU s (1032+28*n) (bK s n):=⟨_,rfl⟩;rw[<-hF]at efl;rw[<-hF];have hn1:n<=1000:=ZG
  refine aP hN (λp:Nat×List Rw=>⟨[(0,.str s),(4,.aa 240019 0),(6,.int .i64 n),(7,.str F),(80,.int .i64 n),(81,.int .i64 p.1)],[(240019,.var (.sl 240196 0 p.2.length::(cP s 256++[.str []]))),(240196,.arr 3 (cR p.2))]⟩)
   (λp=>p.1<=n/\rowsP s n p.1=.ok p.2) (λp=>n-p.1) (0,[]) (.lh 240019 0 240196 3 (.aj::(cP s 256++[.str []])) rfl rfl rfl (.le (by simp(disch:=first | omega | (simp only[Lx];omega))only[go_sem,simprocAttr,aaj,aaq,AF,List.set_cons_zero,DC]))) ⟨ZG,rfl⟩ ?_
  rintro⟨k,l⟩ R2 ⟨hk2,hrows⟩ hR2;simp only at hk2 hrows;have hll:=nQ hrows;by_cases hlt2:k<n
  ·have hrb:1032+20*k+20<=s.length:=ZG;have c1:((1032:Int)+20*(k:Int)).toNat=1032+20*k:=ZG;have c2:((1032:Int)+20*(k:Int)+20).toNat-(1032+20*k)=20:=ZG;have hrl:=dF hrb;change (fw s k).length=20 at hrl;have hrw:aU s (1032+20*k) 20=fw s k:=rfl;obtain⟨raw,hraw⟩:∃raw,raw=fw s k:=⟨_,rfl⟩;have hch:(raw.getD 0 0).toNat=mT s k:=by rw[hraw];rfl
   rw[<-hraw]at hrl hrw;have hcb:=(raw.getD 0 0).toNat_lt;obtain⟨c,hc⟩:∃c,c=mT s k:=⟨_,rfl⟩;rw[hch,<-hc]at hcb;rw[<-hc]at hch;have hf0:=o4 s 256 (i:=c) ZG;have hf1:=o4 s 256 (i:=c+1) ZG;rw[if_pos ZG]at hf0 hf1
   have badr:∀{h} (e:Int),fR s n k=.error e->R h (.ab [.lit (.pointer none),.int .i64 e]) [.undef]:=λe he=>bad e (by
    have h1:rowsP s n (k+1)=.error e:=by unfold rowsP;rw[hrows];simp only[he]
    rw[hb0,xF (by omega:k+1<=n) h1])
   have bad3:∀{h},jy s k->R h (.ab [.lit (.pointer none),.int .i64 3]) [.undef]:=λh=>badr 3 (by unfold fR;rw[if_pos h]);refine cq c1 c2 @cB hrw ?_;have c3:((1032:Int)+20*(k:Int)-20).toNat=1012+20*k:=ZG;have c4:1032+20*k-(1012+20*k)=20:=ZG;have c5:((c:Int)+1).toNat=c+1:=ZG;obtain⟨prev,hprev⟩:∃prev,prev=aU s (1012+20*k) 20:=⟨_,rfl⟩;obtain⟨fc,hfc⟩:∃fc,fc=bm s c:=⟨_,rfl⟩;obtain⟨fd,hfd⟩:∃fd,fd=bm s (c+1):=⟨_,rfl⟩;rw[<-hfc]at hf0;rw[<-hfd]at hf1
   have hbr:jy s k↔(0<k/\Op.bytesLess prev raw=false)\/k<fc\/fd<=k:=by
    unfold jy;rw[<-hc,<-hraw,<-hprev,<-hfc,<-hfd]
   by_cases hA:0<k/\Op.bytesLess prev raw=false
   ·have hi:(0:Int)<(k:Int):=ZG;have hA2:=hA.2;simp(disch:=first | omega | (simp only[Lx];omega))only[go_sem,simprocAttr,hi,c1,c3,c4,cB,<-hprev,hA2,aan,aap]
    (repeat(first | refine cJ ?_ | refine cH ?_ | refine cI ?_)<;>simp(disch:=first | omega | (simp only[Lx];omega))only[go_sem,simprocAttr,hi,c1,c3,c4,cB,<-hprev,hA2,aan,aap])
    exact bad3 (hbr.2 (.inl hA))
   have hsel:(¬(0:Int)<(k:Int)/\¬(0:Int)<(k:Int))\/((0:Int)<(k:Int)/\Op.bytesLess prev raw=true):=by
    by_cases h:0<k
    ·exact .inr ⟨ZG,by
      cases h2:Op.bytesLess prev raw with
      | true=>rfl
      | false=>exact absurd ⟨h,h2⟩ hA⟩
    exact .inl ⟨ZG,ZG⟩
   by_cases hB:k<fc
   ·have hiB:(k:Int)<(fc:Int):=ZG;rcases hsel with⟨hi,hA2⟩ | ⟨hi,hA2⟩
    ·simp(disch:=first | omega | (simp only[Lx];omega))only[go_sem,simprocAttr,hi,c1,c3,c4,c5,cB,<-hprev,aan,aap,iV,iW,aay,hch,hf0,hf1]
     (repeat(first | refine cJ ?_ | refine cH ?_ | refine cI ?_)<;>simp(disch:=first | omega | (simp only[Lx];omega))only[go_sem,simprocAttr,hi,c1,c3,c4,c5,cB,<-hprev,aan,aap,iV,iW,aay,hch,hf0,hf1])
     exact bad3 (hbr.2 (.inr (.inl hB)))
    ·simp(disch:=first | omega | (simp only[Lx];omega))only[go_sem,simprocAttr,hi,hA2,c1,c3,c4,c5,cB,<-hprev,aan,aap,iV,iW,aay,hch,hf0,hf1]
     (repeat(first | refine cJ ?_ | refine cH ?_ | refine cI ?_)<;>simp(disch:=first | omega | (simp only[Lx];omega))only[go_sem,simprocAttr,hi,hA2,c1,c3,c4,c5,cB,<-hprev,aan,aap,iV,iW,aay,hch,hf0,hf1])
     exact bad3 (hbr.2 (.inr (.inl hB)))
   have hiB:¬(k:Int)<(fc:Int):=ZG;by_cases hC:fd<=k
   ·have hiC:(fd:Int)<=(k:Int):=ZG;rcases hsel with⟨hi,hA2⟩ | ⟨hi,hA2⟩
    ·simp(disch:=first | omega | (simp only[Lx];omega))only[go_sem,simprocAttr,hi,hiB,hiC,c1,c3,c4,c5,cB,<-hprev,aan,aap,iV,iW,aay,hch,hf0,hf1]
     (repeat(first | refine cJ ?_ | refine cH ?_ | refine cI ?_)<;>simp(disch:=first | omega | (simp only[Lx];omega))only[go_sem,simprocAttr,hi,hiB,hiC,c1,c3,c4,c5,cB,<-hprev,aan,aap,iV,iW,aay,hch,hf0,hf1])
     exact bad3 (hbr.2 (.inr (.inr hC)))
    ·simp(disch:=first | omega | (simp only[Lx];omega))only[go_sem,simprocAttr,hi,hiB,hiC,hA2,c1,c3,c4,c5,cB,<-hprev,aan,aap,iV,iW,aay,hch,hf0,hf1]
     (repeat(first | refine cJ ?_ | refine cH ?_ | refine cI ?_)<;>simp(disch:=first | omega | (simp only[Lx];omega))only[go_sem,simprocAttr,hi,hiB,hiC,hA2,c1,c3,c4,c5,cB,<-hprev,aan,aap,iV,iW,aay,hch,hf0,hf1])
     exact bad3 (hbr.2 (.inr (.inr hC)))
   have hiC:¬(fd:Int)<=(k:Int):=ZG;rcases hsel with⟨hi,hA2⟩ | ⟨hi,hA2⟩
   all_goals
    simp(disch:=first | omega | (simp only[Lx];omega))only[go_sem,simprocAttr,hi,hiB,hiC,hA2,c1,c3,c4,c5,cB,<-hprev,aan,aap,iV,iW,aay,hch,hf0,hf1]
    (repeat(first | refine cJ ?_ | refine cH ?_ | refine cI ?_)<;>simp(disch:=first | omega | (simp only[Lx];omega))only[go_sem,simprocAttr,hi,hiB,hiC,hA2,c1,c3,c4,c5,cB,<-hprev,aan,aap,iV,iW,aay,hch,hf0,hf1])
    have d1:((1032:Int)+24*(n:Int)+4*(k:Int)).toNat=1032+24*n+4*k:=ZG;have d2:((1032:Int)+24*(n:Int)+4*(k:Int)+4).toNat-(1032+24*n+4*k)=4:=ZG;have d3:((1032:Int)+20*(n:Int)+4*(k:Int)).toNat=1032+20*n+4*k:=ZG;have d4:((1032:Int)+20*(n:Int)+4*(k:Int)+4).toNat-(1032+20*n+4*k)=4:=ZG;have hbn:=nw (aU s (1032+24*n+4*k) 4) (by rw[dF ZG];omega);have hbc:=nw (aU s (1032+20*n+4*k) 4) (by rw[dF ZG];omega);have hnl:dJ s n k<4294967296:=kO (n:=4) (by rw[dF ZG];omega);have hcl:bE (aU s (1032+20*n+4*k) 4)<4294967296:=kO (n:=4) (by rw[dF ZG];omega);rw[d1,d2];refine an hbn rfl rfl ?_;change dJ s n k<4294967296 at hnl;rw[show bE (aU s (1032+24*n+4*k) 4)=dJ s n k from rfl]
    have hnb:¬jy s k:=λh=>by
     rcases hbr.1 h with h | h | h;exact hA h;exact hB h;exact hC h
    have aY:fO s n k=if 2147483648<=dJ s n k then bE (aU F (8*(dJ s n k-2147483648)) 8)else dJ s n k:=by unfold fO;rw[<-hF]
    have hrp:fR s n k=(if 2147483648<=dJ s n k/\bK s n/8<=dJ s n k-2147483648 then .error 3
     else if 1099511627776<fO s n k then .error 2
     else .ok (Sh.bw raw,fO s n k,bE (aU s (1032+20*n+4*k) 4))):=by unfold fR;rw[if_neg hnb,hraw]
    obtain⟨q,hq⟩:∃q,q=dJ s n k:=⟨_,rfl⟩;obtain⟨cr,hcr⟩:∃cr,cr=bE (aU s (1032+20*n+4*k) 4):=⟨_,rfl⟩;rw[<-hq]at hnl aY hrp;rw[<-hcr]at hcl hrp hbc;rw[<-hq]
    have hpb:fO s n k<18446744073709551616:=by
     rw[aY];split;exact ZV (kO (n:=8) (by unfold aU;rw[ZL];exact Nat.min_le_left ..)) (by decide);omega
    refine wW ?_;refine fU (y:=Cod.Zh) hN (λ_:Unit=>⟨[(0,.str s),(4,.aa 240019 0),(6,.int .i64 n),(7,.str F),(8,.int .i64 k),(9,.str raw),(10,.int .u64 (fO s n k:Nat)),(80,.int .i64 n),(81,.int .i64 k)],[(240019,.var (.sl 240196 0 l.length::(cP s 256++[.str []]))),(240196,.arr 3 (cR l))]⟩) (λ_=>¬(2147483648<=q/\bK s n/8<=q-2147483648)) (λR3 hR3=>?_) ?_
    ·by_cases hf:2147483648<=q
     ·have hif:(2147483648:Int)<=(q:Int):=ZG;rw[if_pos hf]at aY;refine ah hif ?_;obtain⟨j,hj⟩:∃j,j=q-2147483648:=⟨_,rfl⟩;have e1:((q:Int)-2147483648)=(j:Int):=ZG;by_cases hg:bK s n/8<=j
      ·have hig:((bK s n:Nat):Int)/8<=(j:Int):=ZG;refine bU e1 efl hig ?_;exact badr 3 (by rw[hrp,if_pos ⟨hf,ZG⟩])
      ·have hig:¬((bK s n:Nat):Int)/8<=(j:Int):=ZG;have h8:=nw (aU F (8*j) 8) (by rw[dF ZG];omega);have d5:((8:Int)*(j:Int)).toNat=8*j:=ZG;have d6:((8:Int)*(j:Int)+8).toNat-8*j=8:=ZG;refine kH e1 efl hig d5 d6 @cB ?_;refine an h8 rfl rfl ?_;rw[<-hj]at aY;rw[<-aY];refine wW ?_;exact hR3 () _ (λh=>hg ZG) (.le vV)
     ·have hif:¬(2147483648:Int)<=(q:Int):=ZG;rw[if_neg hf]at aY;refine ah hif ?_;exact hR3 () _ (λh=>hf h.1) (.le (by rw[aY];exact vV))
    ·intro _ hng;rw[if_neg hng]at hrp;obtain⟨pl,hpl2⟩:∃pl,pl=fO s n k:=⟨_,rfl⟩;rw[<-hpl2]at hrp;rw[<-hpl2];by_cases hbig:1099511627776<pl
     ·have hib:(1099511627776:Int)<(pl:Int):=ZG;refine ah hib ?_;exact badr 2 (by rw[hrp,if_pos hbig])
     ·have hib:¬(1099511627776:Int)<(pl:Int):=ZG;rw[if_neg hbig]at hrp;have hhex:=Sh.ph raw ZG;refine cq hib d3 d4 @cB ?_;refine an hhex rfl rfl ?_;refine wW ?_;refine an hbc rfl rfl ?_;refine ah @fS ?_;rw[tc,DB];refine⟨⟨xE,ZG⟩,hR2 (k+1,l++[(Sh.bw raw,pl,cr)]) _ (by simp only;omega) ⟨by simp only;omega,by simp only;unfold rowsP;rw[hrows];simp only[hrp]⟩ (.le (by rw[ZJ,ZQ];simp(disch:=first | omega | (simp only[Lx];omega))only[go_sem,simprocAttr,aaq,AF,aaj,abk]))⟩
  ·obtain rfl:k=n:=ZG;rw[hrows]at hb0;simp only at hb0;have m1:((s.length:Int)-20).toNat=s.length-20:=ZG;have m2:((s.length:Int)-40).toNat=s.length-40:=ZG;have m3:s.length-20-(s.length-40)=20:=ZG;have hsum:=Sh.tD (s.take (s.length-20)) (by rw[ZL];omega);have hhx:=Sh.ph (aU s (s.length-40) 20) (by rw[dF ZG];omega);refine ah m1 ?_;refine an hsum rfl rfl ?_;by_cases hsh:Sh.cS (s.take (s.length-20))=s.drop (s.length-20)
   ·refine cM hsh m1 m2 m3 @cB ?_;refine an hhx rfl rfl ?_;have htk:(cP s 256++[AV.str []]).take 257=cP s 256:=aci hfl;obtain⟨sm,hsm⟩:∃sm,sm=Sh.bw (aU s (s.length-40) 20):=⟨_,rfl⟩;rw[<-hsm]at hb0;rw[<-hsm];simp(disch:=first | omega | (simp only[Lx];omega))only[go_sem,simprocAttr,htk,aaw]
    have hb1:cL s=.ok (l,sm):=by rw[hb0,if_neg (λh=>h hsh)]
    refine hR.wk (h':=[]) (r':=.ab [ek s (l,sm),.int .i64 0]) (ar':=[.undef]) rfl (.bo 240196 (.ny 0 0 240019 [.aa 240019 0,.int .i64 0] (.ro 3 (cR l)::(cP s 256++[.str sm])) vV (by rfl) ?_ ?_ (.le ?_))) ⟨rfl,by rw[hb1];rfl⟩
    ·simp(disch:=first | omega | (simp only[Lx];omega))only[go_sem,simprocAttr,aaq,Lb,tc,fS]
    ·simp[noRefC,Lc]
    ·simp(disch:=first | omega | (simp only[Lx];omega))only[go_sem,simprocAttr,ek]
   ·refine ah hsh ?_;exact bad 5 (by rw[hb0,if_pos hsh])
abbrev kf (L:List Rw):List Fi:=L.map λr=>(r.1,[])
theorem B5 (L:List Rw):(kf L).length=L.length:=Z3 ..
theorem wi (L:List Rw) (i:Nat):((kf L).getD i aJ).1=(L.getD i eV).1:=by
 rw[ZH,ZH,List.getElem?_map];cases L[i]?<;>rfl
theorem Zd (s:Bs) (p:List Rw×Bs):aw Tryz.prog 36 [ek s p] (.int .i64 p.1.length):=by
 refine Cod.Ze (λE R hN hR=>?_);refine ah @fS ?_;exact hR.ro ⟨rfl,rfl⟩
theorem Zk (s:Bs) (p:List Rw×Bs):aw Tryz.prog 38 [ek s p] (.str p.2):=by
 refine Cod.Zl (λE R hN hR=>?_);have h:(cP s 256++[AV.str p.2]).getD 257 .undef=.str p.2:=by rw[ZH,List.getElem?_append_right (by rw[kU];omega),kU];rfl
 have hl:=kU s 256;refine ah h ?_;exact hR.ro ⟨rfl,rfl⟩
abbrev AX (f:Nat):Value:=.func (.func f) #[] #[]
theorem Vf (f:Nat) (hf:callable Tryz.prog f=true) (hsp:∀(r:Rw) (t:Bs),aw Tryz.prog f [ly r,.str t] (.int .i64 (Lib.compareBytes r.1 t))) (L:List Rw) (t:Bs) (hs:dE (kf L)) (hl:L.length<=100000) :
    aw Tryz.prog 102 [.ro 3 (cR L),.str t,.lit (AX f)] (iX t (kf L)):=by
 refine Cod.Vg (λE R hN hR=>?_);have hp:=sP t (kf L);have hkl:=B5 L;refine ah @fS ?_;refine aP hN (λp:Nat×Nat=>⟨[(0,.ro 3 (cR L)),(1,.str t),(2,.lit (AX f)),(8,.int .i64 L.length),(9,.int .i64 p.1),(10,.int .i64 p.2)],[]⟩) (λp=>p.1<=posF t (kf L)/\posF t (kf L)<=p.2/\p.2<=L.length) (λp=>p.2-p.1) (0,L.length) (.le vV) ⟨Z7 _,ZG,ZM _⟩ ?_;rintro⟨i,j⟩ R1 ⟨h1,h2,h3⟩ hR1;simp only at h1 h2 h3;by_cases hlt:i<j
 ·have hm:IntKind.i64.wrap (((i:Int)+(j:Int)).fdiv (2^min 1 64))=(((i+j)/2:Nat):Int):=by
   rw[show(2:Int)^min 1 64=2 from rfl,aaf _ (by decide)];rw[eF ⟨ZG,ZG⟩];omega
  have hk:(i+j)/2<L.length:=ZG;have hpi:=xg t hs (k:=(i+j)/2) ZG;obtain⟨k,hk0⟩:∃k,k=(i+j)/2:=⟨_,rfl⟩;rw[<-hk0]at hm hk hpi;rw[wi]at hpi;have hik:i<=k:=ZG;have hkj:k<j:=ZG;clear hk0;refine bU @fS hm @pN ?_;refine vc hf ?_;refine an (hsp (L.getD k eV) t) rfl rfl ?_;generalize Lib.compareBytes (L.getD k eV).1 t=c at *
  by_cases hc:c<0
  ·refine ah hc ?_;exact hR1 (k+1,j) _ (by simp only;omega) ⟨by simp only;omega,by simp only;omega,h3⟩ (.le vV)
  ·refine ah hc ?_;exact hR1 (i,k) _ (by simp only;omega) ⟨h1,by simp only;omega,by simp only;omega⟩ (.le vV)
 ·obtain rfl:i=j:=ZG;obtain rfl:i=posF t (kf L):=ZG;by_cases hlt:posF t (kf L)<L.length
  ·have hi:((posF t (kf L):Nat):Int)<(L.length:Int):=ZG;have hz:∀a:Bs,(Lib.compareBytes a t=0)↔a=t:=λa=>⟨jA,λe=>by rw[e];exact j9 t⟩;have hz:=hz (L.getD (posF t (kf L)) eV).1;refine bU @fS hi @pN ?_;refine iY @fS hi @pN ?_;refine A6 hf ?_;refine eS (by simp(disch:=first | omega | (simp only[Lx];omega))only[go_sem,simprocAttr,ly]) (hsp (L.getD (posF t (kf L)) eV) t) vV rfl rfl ?_
   have hfo:∀b:Bool,decide (Lib.compareBytes (L.getD (posF t (kf L)) eV).1 t=0)=b->iX t (kf L)=.ab [.int .i64 (posF t (kf L):Nat),.bool b]:=by
    intro b hb;unfold iX;rw[wi,<-hb,decide_eq_decide.2 (⟨λh=>hz.2 h.2,λh=>⟨ZG,hz.1 h⟩⟩:(posF t (kf L)<(kf L).length/\(L.getD (posF t (kf L)) eV).1=t)↔Lib.compareBytes (L.getD (posF t (kf L)) eV).1 t=0)]
   generalize Lib.compareBytes (L.getD (posF t (kf L)) eV).1 t=c at *
   by_cases hc:c=0
   ·refine ah hc ?_;refine bI hc ?_;exact hR.ro ⟨rfl,(hfo true (by simp[hc])).symm⟩
   ·refine ah hc ?_;refine bI hc ?_;exact hR.ro ⟨rfl,(hfo false (by simp[hc])).symm⟩
  ·refine aE @fS hlt ?_;refine ee @fS hlt ?_;refine A5 ?_;refine ah hlt ?_;refine bI hlt ?_;exact hR.ro ⟨rfl,by unfold iX;rw[decide_eq_false (λh:_/\_=>hlt (by have:=h.1;omega))]⟩
abbrev pC (t:Bs) (L:List Rw):List Bs:=cY t (kf L)
abbrev ba:=Bs×Bs×(List Rw×Bs)
abbrev mh:ba:=([],[],[],[])
def sI (p:ba):AV:=.agg [.str p.1,ek p.2.1 p.2.2]
def eX (ps:List ba):List AV:=ps.map sI
theorem pS (ps:List ba):(eX ps).length=ps.length:=by simp[eX]
theorem R8 {ps:List ba} {i:Nat} (h:i<ps.length):nth (eX ps) i=.agg [.str (ps.getD i mh).1,ek (ps.getD i mh).2.1 (ps.getD i mh).2.2]:=by
 simp[nth,eX,sI,ZH,h]
theorem SX {ps:List ba}:(eX ps).all aD=true:=by simp[eX,sI,aD,cellsOf,isCell]
theorem SV {ps:List ba} {d t:Bs} {x:List Rw×Bs}:eX ps++[.agg [.str d,ek t x]]=eX (ps++[(d,t,x)]):=by simp[eX,sI]
theorem SY:eX []=[]:=(rfl)
theorem CY (ps:List ba):az (eX ps) 0 ps.length=eX ps:=by
 unfold az;rw[aae,ZK (by rw[pS];omega)]
def dy:Bs:=[111,98,106,101,99,116,115,47,112,97,99,107,47,112,97,99,107,45]
def fB:Bs:=[46,105,100,120]
def lD:Bs:=[46,112,97,99,107]
def fu (p:Bs):Bs:=Lib.trimSuffix (p.drop 18) fB
noncomputable def stepP (L:List Fi) (p:Bs):Except Int (Option ba):=
 if Lib.hasSuffix (p.drop 18) fB=false\/cf (fu p)=false then .ok none
 else match cL ((getF p L).getD [])with
  | .error e=>.error e
  | .ok x=>match getF (dy++fu p++lD) L with
   | none=>.error 7
   | some d=>
    if(dm d).2≠0 then .error (dm d).2
    else if(dm d).1≠(x.1.length:Int)then .error 4
    else if Sh.bw (d.drop (d.length-20))≠x.2 then .error 5
    else .ok (some (d,(getF p L).getD [],x))
theorem DD {s:Bs} {n:Nat} {e:Int}:∀{k:Nat},rowsP s n k=.error e->e≠0
 | 0,h=>by unfold rowsP at h;cases h
 | k+1,h=>by
  unfold rowsP at h
  cases h1:rowsP s n k with
  | error e'=>
   rw[h1]at h;cases h
   exact DD h1
  | ok l'=>
   rw[h1]at h
   cases h2:fR s n k with
   | error e'=>
    rw[h2]at h;cases h;unfold fR at h2;split at h2
    ·cases h2;decide
    ·split at h2
     ·cases h2;decide
     ·split at h2
      ·cases h2;decide
      ·cases h2
   | ok r=>rw[h2]at h;cases h
theorem w9 {s:Bs} {e:Int} (h:cL s=.error e):e≠0:=by
 unfold cL at h;simp only at h;split at h
 ·cases h;decide
 ·split at h
  ·cases h;decide
  ·split at h
   ·cases h;decide
   ·split at h
    ·cases h;decide
    ·split at h
     ·cases h;decide
     ·split at h
      ·cases h;decide
      ·split at h
       ·rename_i e' h1;cases h;exact DD h1
       ·split at h
        ·cases h;decide
        ·cases h
noncomputable def packsP (L:List Fi) (U:List Bs):Nat->Except Int (List ba)
 | 0=>.ok []
 | k+1=>match packsP L U k with
  | .error e=>.error e
  | .ok ps=>match stepP L (U.getD k [])with
   | .error e=>.error e
   | .ok none=>.ok ps
   | .ok (some p)=>.ok (ps++[p])
theorem w7 {L:List Fi} {U:List Bs} {e:Int}:∀{m k:Nat},k<=m->packsP L U k=.error e->packsP L U m=.error e
 | 0,k,h,h1=>by
  obtain rfl:k=0:=ZG
  exact h1
 | m+1,k,h,h1=>by
  by_cases hk:k=m+1
  ·subst hk;exact h1
  ·unfold packsP;rw[w7 (by omega:k<=m) h1]
theorem sK {L:List Fi} {U:List Bs}:∀{k:Nat} {l:List ba},packsP L U k=.ok l->l.length<=k
 | 0,l,h=>by
  unfold packsP at h
  cases h;exact ZM _
 | k+1,l,h=>by
  unfold packsP at h
  cases h1:packsP L U k with
  | error e=>rw[h1]at h;cases h
  | ok l'=>
   have:=sK h1;rw[h1]at h
   cases h2:stepP L (U.getD k [])with
   | error e=>rw[h2]at h;cases h
   | ok r=>
    rw[h2]at h
    cases r with
    | none=>cases h;omega
    | some r=>
     cases h;rw[ZJ,ZQ];omega
noncomputable def gj (L:List Fi):Except Int (List ba):=packsP L (cY dy L) (cY dy L).length
abbrev eW (L:List Fi) (n:Nat) (ps:List ba):AV:=.ao (.agg [fx L n,.ro 2 (eX ps)])
def sD (L:List Fi) (n:Nat):Except Int (List ba)->AV
 | .error e=>.ab [.lit (.pointer none),.int .i64 e]
 | .ok ps=>.ab [eW L n ps,.int .i64 0]
theorem Jz (s p:Bs) (hs:s.length<=1000000):aw Tryz.prog 31 [.str s,.str p] (.ab [.str (Lib.trimSuffix s p),.bool (Lib.hasSuffix s p)]):=
 lC rfl rfl (λw=>Tryz.strings_CutSuffix ⟨s.toArray⟩ ⟨p.toArray⟩ w (by show s.toArray.size<=_;simp;omega))
theorem pd {p d:Bs} {L:List Fi} {B:Nat} (h:∀f∈L,f.2.length<=B) (hg:getF p L=some d):d.length<=B:=h _ (get_mem hg)
set_option maxHeartbeats 4000000 in
theorem CQ (L:List Fi) (n:Nat) (hs:dE L) (hl:L.length<=100000) (hc:∀f∈L,f.1.length<=200) (hd:∀f∈L,f.2.length<=100000) :
    aw Tryz.prog 13 [fx L n] (sD L n (gj L)):=by
 refine Cod.SD (λE R hN hR=>?_);refine wW ?_;refine an (EJ L n dy hs hl (by decide) (λf hf=>by have:=hc f hf;omega)) rfl rfl ?_;have hul:=qn dy L
 have hum:∀p∈cY dy L,p.length<=200/\18<=p.length:=λp hp=>by
  obtain⟨h1,f,hf,h2⟩:=x9 hp;exact⟨by rw[<-h2];exact hc f hf,uE h1⟩
 unfold gj at hR;generalize cY dy L=U at *
 have bad:∀{h} (e:Int),packsP L U U.length=.error e->R h (.ab [.lit (.pointer none),.int .i64 e]) [.undef]:=λe he=>hR.ro ⟨rfl,by rw[he];rfl⟩;refine ah @bz ?_
 refine aP hN (λp:Nat×List ba=>⟨[(0,fx L n),(4,.aa 246017 0),(19,.ro 1 (aL U)),(20,.int .i64 U.length),(21,.int .i64 p.1)],[(246017,.var [fx L n,.sl 246096 0 p.2.length]),(246096,.arr 2 (eX p.2))]⟩)
  (λp=>p.1<=U.length/\packsP L U p.1=.ok p.2) (λp=>U.length-p.1) (0,[]) (.lh 246017 1 246096 2 [fx L n,.aj] rfl rfl rfl (.le (cU @SY))) ⟨ZG,rfl⟩ ?_
 rintro⟨k,ps⟩ R1 ⟨hk,hps⟩ hR1;simp only at hk hps;have aY:=sK hps;by_cases hlt:k<U.length
 ·obtain⟨h1,h2⟩:=hum _ (eK [] hlt)
  have hst:∀r,stepP L (U.getD k [])=r->packsP L U (k+1)=match r with
   | .error e=>.error e
   | .ok none=>.ok ps
   | .ok (some p)=>.ok (ps++[p]):=λr hr=>by rw[packsP,hps];simp only[hr]
  obtain⟨p,hp⟩:∃p,p=U.getD k []:=⟨_,rfl⟩;rw[<-hp]at h1 h2 hst;have hi:(18:Int)<=(p.length:Int):=ZG;have badk:∀{h} (e:Int),stepP L p=.error e->R h (.ab [.lit (.pointer none),.int .i64 e]) [.undef]:=λe he=>bad e (w7 (by omega:k+1<=U.length) (hst _ he))
  have skip:stepP L p=.ok none->∀st',Wk st' ⟨[(0,fx L n),(4,.aa 246017 0),(19,.ro 1 (aL U)),(20,.int .i64 U.length),(21,.int .i64 ((k+1:Nat):Int))],[(246017,.var [fx L n,.sl 246096 0 ps.length]),(246096,.arr 2 (eX ps))]⟩->R1.ap st':=λhno st' hw=>
   hR1 (k+1,ps) _ (by simp only;omega) ⟨by simp only;omega,hst _ hno⟩ hw
  have hcs:=Jz (p.drop 18) fB (by rw[ZN];omega)
  have hnl:(fu p).length<=200:=by
   unfold fu Lib.trimSuffix;split
   ·rw[ZL,ZN];omega
   ·rw[ZN];omega
  have hsid:=nU (fu p) ZG;simp(disch:=first | omega | (simp only[Lx];omega))only[go_sem,simprocAttr,bz,fv,<-hp,hi]
  refine an hcs rfl rfl ?_;rw[show Lib.trimSuffix (p.drop 18) fB=fu p from rfl]
  cases hsf:Lib.hasSuffix (p.drop 18) fB with
  | false=>
   refine wW ?_;refine gG ?_
   exact skip (by unfold stepP;rw[if_pos (.inl hsf)]) _ (.le vV)
  | true=>
   refine wW ?_;refine gG ?_;refine fH (eS vV hsid vV rfl rfl ?_)
   cases hid:cf (fu p)with
   | false=>
    refine wW ?_;refine gG ?_
    exact skip (by unfold stepP;rw[if_pos (.inr hid)]) _ (.le vV)
   | true=>
    refine wW ?_;refine gG ?_;have hg1:=xP L n p hs hl
    have hg2:aw Tryz.prog 33 [fx L n,.str p] (.ab [.str ((getF p L).getD []),.int .i64 (if(getF p L).isSome then 0 else 7)]):=by
     cases hg:getF p L<;>(rw[hg]at hg1;exact hg1)
    have htl:((getF p L).getD []).length<=100000:=by
     cases hg:getF p L with
     | none=>simp
     | some d=>exact pd hd hg
    have hsp:stepP L p=(match cL ((getF p L).getD [])with
        | .error e=>.error e
        | .ok x=>match getF (dy++fu p++lD) L with
         | none=>.error 7
         | some d=>
          if(dm d).2≠0 then .error (dm d).2
          else if(dm d).1≠(x.1.length:Int)then .error 4
          else if Sh.bw (d.drop (d.length-20))≠x.2 then .error 5
          else .ok (some (d,(getF p L).getD [],x))):=by
     unfold stepP;rw[if_neg (by rw[hsf,hid];simp)]
    refine an hg2 rfl rfl ?_;obtain⟨t,ht⟩:∃t,t=(getF p L).getD []:=⟨_,rfl⟩;rw[<-ht]at htl hsp;rw[<-ht];have hpa:=Zi t htl;refine wW ?_
    cases hpp:cL t with
    | error e=>
     rw[hpp]at hpa hsp;refine an hpa rfl rfl ?_;have he:¬e=0:=w9 hpp;simp(disch:=first | omega | (simp only[Lx];omega))only[go_sem,simprocAttr,parseA,he]
     exact badk e hsp
    | ok x=>
     rw[hpp]at hpa hsp;simp only at hsp;refine an hpa rfl rfl ?_;have hg3:=xP L n (dy++fu p++lD) hs hl;have hbl:(dy++fu p++lD).length<=1000:=by rw[ZJ,ZJ];have:dy.length=18:=rfl;have:lD.length=5:=rfl;omega
     obtain⟨q,hq⟩:∃q,q=dy++fu p++lD:=⟨_,rfl⟩;have hq2:111::98::106::101::99::116::115::47::112::97::99::107::47::112::97::99::107::45::(fu p++[46,112,97,99,107])=q:=by rw[hq];rfl
     rw[<-hq]at hg3 hsp hbl;simp(disch:=first | omega | (simp only[Lx];omega))only[go_sem,simprocAttr,parseA,hq2]
     cases hgd:getF q L with
     | none=>
      rw[hgd]at hg3 hsp;refine an hg3 rfl rfl ?_;refine wW ?_
      exact badk 7 hsp
     | some d=>
      rw[hgd]at hg3 hsp;simp only at hsp;have hdl:=pd hd hgd;have hcn:=Y8 d hdl;have h32:=@zI d;have hln:=Zd t x;have hsm:=Zk t x;refine an hg3 rfl rfl ?_;refine wW ?_;refine an hcn rfl rfl ?_;obtain⟨m,hm⟩:∃m,m=(dm d).1:=⟨_,rfl⟩;obtain⟨f,hf⟩:∃f,f=(dm d).2:=⟨_,rfl⟩;rw[<-hf,<-hm]at hsp;rw[<-hf]at h32;rw[<-hf,<-hm];refine wW ?_;by_cases h0:f=0;rotate_left
      ·rw[if_pos h0]at hsp;refine ah h0 ?_;exact badk f hsp
      ·rw[if_neg (λh=>h h0)]at hsp;have h32:=h32 h0;subst h0;refine wW ?_;refine an hln rfl rfl ?_;by_cases h3:m=(x.1.length:Int);rotate_left
       ·rw[if_pos h3]at hsp;refine ah h3 ?_;exact badk 4 hsp
       ·rw[if_neg (λh=>h h3)]at hsp;have e20:((d.length:Int)-20).toNat=d.length-20:=ZG;have hhx:=Sh.ph (d.drop (d.length-20)) (by rw[ZN];omega);refine aE h3 e20 ?_;refine an hhx rfl rfl ?_;refine wW ?_;refine an hsm rfl rfl ?_;by_cases h4:Sh.bw (d.drop (d.length-20))=x.2;rotate_left
        ·rw[if_pos h4]at hsp;refine ah h4 ?_;exact badk 5 hsp
        ·rw[if_neg (λh=>h h4)]at hsp;refine aE h4 @pS ?_;rw[CY,SV];refine⟨⟨SX,ZG⟩,hR1 (k+1,ps++[(d,t,x)]) _ (by simp only;omega) ⟨by simp only;omega,hst _ hsp⟩ (.le (by rw[ZJ,ZQ];exact vV))⟩
 ·obtain rfl:k=U.length:=ZG;have hop:sD L n (packsP L U U.length)=.ab [eW L n ps,.int .i64 0]:=by rw[hps];rfl
  refine ah @bz ?_;refine hR.wk (h':=[]) (r':=.ab [eW L n ps,.int .i64 0]) (ar':=[.undef]) rfl (.bo 246096 (.ny 0 0 246017 [.aa 246017 0,.int .i64 0] [fx L n,.ro 2 (eX ps)] vV (by rfl) ?_ ?_ (.le ?_))) ⟨rfl,hop.symm⟩;exact nY @CY @pS;rfl
  ·simp(disch:=first | omega | (simp only[Lx];omega))only[go_sem,simprocAttr,eW]
end Go.Proofs.YtkdjbebgdoohjaaGreatDoor.Ls
