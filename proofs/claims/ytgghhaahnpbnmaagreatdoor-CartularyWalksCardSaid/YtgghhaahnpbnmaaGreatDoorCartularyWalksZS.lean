/- The proof, part 45 of 51. -/
import Derived.Test.YtgghhaahnpbnmaaGreatDoorCartularyWalksZF
set_option linter.all false
namespace Go.Proofs.YtgghhaahnpbnmaaGreatDoor.Pk
open Eng
set_option maxRecDepth 10000
theorem T1 (x n:Nat) {k:Nat} (h:k<n):(bA x n).reverse.take (k+1)=(bA x n).reverse.take k++[UInt8.ofNat (x/256^(n-1-k)%256)]:=by
 have hl:=gZ x n;rw[XS (bA x n) acB,hl]
 congr 2
 simp[bA,acC,show n-1-k<n by omega]
theorem JO (x n:Nat) (hx:x<9223372036854775808) (hn:n<=8):aw Tryz.prog 88 [.int .u64 x,.int .i64 n] (.str (bA x n).reverse):=by
 refine Cod.JP (λE R hN hR=>?_);have em:max (n:Int) 0=n:=acB;refine ah em ?_;refine aJ hN (λk:Nat=>⟨[(0,.int .u64 x),(1,.int .i64 n),(5,.sl 127029 0 k),(8,.int .i64 n),(9,.int .i64 k)],[(127029,.arr 1 (((bA x n).reverse.take k).map ub))]⟩) (λk=>k<=n) (λk=>n-k) 0 (.nil 5 127029 1 rfl (.le vV)) acB ?_;rintro k R1 hk hR1;have hl:((bA x n).reverse.take k).length=k:=by rw[acJ,adn,gZ];omega
 by_cases hlt:k<n
 ·have hct:=T1 x n hlt;have e8:¬(8:Int)<(n:Int)-(k:Int):=acB
  have hsh:(x:Int).fdiv (2^min ((8*((n:Int)-1-(k:Int))).toNat) 64)=((x/256^(n-1-k):Nat):Int):=by
   have e1:(8*((n:Int)-1-(k:Int))).toNat=8*(n-1-k):=acB;rw[e1,ac1 acB,ac6 _ (ael (by decide)),show(256:Nat)=2^8 from rfl,<-Nat.pow_mul]
   norm_cast
  generalize x/256^(n-1-k)=y at *
  have e3:IntKind.u8.wrap (y:Int)=((UInt8.ofNat (y%256)).toNat:Int):=by
   rw[ada]
   show(y:Int)%256=_
   omega
  refine cI e8 hsh e3 ?_;exact hR1 (k+1) _ acB acB (.le (by rw[hct];simp(disch:=omega)only[go_sem,simprocAttr];simp[ub]))
 ·obtain rfl:k=n:=acB;rw[acF (by rw[adn,gZ];omega)]at hl |-;refine wW ?_;exact hR.wk (h':=[]) (r':=.str (bA x k).reverse) (ar':=[.undef,.undef]) rfl (.le vV) ⟨rfl,rfl⟩
def jN (t s:Bs):Bs:=[120,1]++t++(bA (dH s) 4).reverse
theorem acw (s:Bs) (hs:s.length<=65535):Eng.Spec Tryz.prog 26 [] [.str s] (λh r _=>h=[]/\∃t,mq s t/\r=.str (jN t s)):=by
 refine Cod.acx (λE R hN hR=>?_);have hadl:=vY s;refine wW ?_;refine dJ (Qs s hs) rfl ?_;rintro h' v ar ⟨rfl,t,ht,rfl⟩;refine⟨rfl,rfl,?_⟩;have htl:=BH ht
 have hfr:aw Tryz.prog 59 [.str t,.str s] (.str (jN t s)):=by
  refine Cod.acg (λE R hN hR=>?_);have ha:=zW s acB;have hb:=JO (dH s) 4 acB (by decide);have hll:=gZ (dH s) 4;unfold jN at hR;rw[show((4:Nat):Int)=4 from rfl]at hb;refine wW ?_;refine aj ha rfl rfl ?_;refine wW ?_;refine aj hb rfl rfl ?_;simp(disch:=omega)only[go_sem,simprocAttr,adn,hll];exact hR.ro ⟨rfl,by simp⟩
 refine wW ?_;refine aj hfr rfl rfl ?_;refine wW ?_;exact hR.ro ⟨rfl,t,ht,rfl⟩
theorem Hi (t s:Bs):(jN t s).length=t.length+6:=by
 have:=gZ (dH s) 4;simp only[jN,acD,adn,acH,ac9];omega
theorem Ns {s:Bs} {q:Nat} {bs:List Bool} (h:je s q bs):∃B,bs=cg 3 3++B:=by
 induction h with
 | nil=>exact⟨[],by simp⟩
 | lit q bs h hq ih=>obtain⟨B,rfl⟩:=ih;exact⟨_,ade ..⟩
 | rep q bs n b i j h h1 h2 ih=>obtain⟨B,rfl⟩:=ih;exact⟨_,ade ..⟩
theorem ZX (s:Bs):lk s=1::(bA s.length 2++bA (65535-s.length) 2++s):=by
 have h1:(dI (cg 1 3)).length=8*1:=by rw[r8,fG]
 have h2:=EH (dI (cg 1 3)) (bA s.length 2++bA (65535-s.length) 2++s) 1 h1;have h3:=lg (bA s.length 2++bA (65535-s.length) 2++s) 0;have h4:c7 (dI (cg 1 3)) 1=[1]:=by decide
 rw[h4]at h2;unfold lk eV nB;rw[acD,h1,h3,show(8*1+(8*(bA s.length 2++bA (65535-s.length) 2++s).length-0)+7)/8=1+(bA s.length 2++bA (65535-s.length) 2++s).length by omega,h2];rfl
theorem two_bytes (t:Bs) (a x:Nat) (h0:t.getD a 0=UInt8.ofNat (x%256)) (h1:t.getD (a+1) 0=UInt8.ofNat (x/256%256)) (hx:x<65536):numAt t (8*a) 16=x:=by
 rw[Ew t (8*a) 8 8,kW,show 8*a+8=8*(a+1)by omega,kW,h0,h1,ada,ada];omega
theorem Fj {s T:Bs} {most:Nat} (hm:s.length<=most) (hT:∀k,k<s.length->T.getD (5+k) 0=s.getD k 0) (hl:5+s.length<=T.length):∀(m k:Nat),k+m=s.length->rawS T most m ⟨40+8*k,s.take k,0⟩=⟨40+8*s.length,s,0⟩
 | 0,k,h=>by
  obtain rfl:k=s.length:=acB;rw[acF (acG _)]
  rfl
 | m+1,k,h=>by
  have htl:(s.take k).length=k:=by rw[acJ];omega
  have hnum:bI T 8 ⟨40+8*k,s.take k,0⟩=((s.getD k 0).toNat,⟨40+8*k+8,s.take k,0⟩):=by
   rw[iC rfl (by simp only;omega)];simp only;rw[show 40+8*k=8*(5+k)by omega,kW,hT k acB]
  have hsn:=dS s 0 (show k<s.length by omega);rw[rawS];simp only[hnum,fw,htl];rw[if_neg (by simp),if_neg (by simp),if_neg acB,aew,<-hsn,show 40+8*k+8=40+8*(k+1)by omega];exact Fj hm hT hl m (k+1) acB
theorem ME {s t:Bs} {most:Nat} (h:mq s t) (hs:s.length<=65535) (hm:s.length<=most) (r:Bs):fq (t++r) most=(s,t.length,0):=by
 rcases h with⟨bs,henc,rfl,_⟩ | rfl
 ·obtain⟨R,hR⟩:=XM (bs++aK ba 256) r;have htl:(eV (bs++aK ba 256)).length=((bs++aK ba 256).length+7)/8:=kY _ _;generalize hT:eV (bs++aK ba 256)++r=T at *
  have hTl:T.length=(eV (bs++aK ba 256)).length+r.length:=by rw[<-hT,acD]
  rw[ade]at hR;have gy:=(Nr hm (ac5 _) henc _ hR).2;rw[acF (acG _),adr,adr]at gy;obtain⟨B,hB⟩:=Ns henc;have hR2:aX T 0=cg 3 3++(B++(aK ba 256++R)):=by rw[hR,hB,ade]
  have hn3:=Ev hR2 (ac5 _) (by decide:3<2^3);have hr3:=lh hR2 (ac5 _);rw[fG]at hr3;have hn1:numAt T 0 1=1:=by rw[<-nr T 0 (show 1<=3 by decide),hn3]
  have hn2:numAt T 1 2=1:=by
   have:=nq T 0 (show 1<=3 by decide);rw[hn3]at this;exact this.symm
  have hrb:=lh hR (ac5 _);rw[adr]at hrb;have hon:=o0 hR;rw[adr]at hon;have hsy:=vg (S:=⟨bs.length,s,0⟩) (s:=256) mR lM (by rw[lN];decide) (mT _ (by decide)) hon rfl
  have hend:gh T most ba bU ⟨bs.length,s,0⟩=⟨bs.length+(aK ba 256).length,s,0⟩:=by
   rw[uC (by simpa using hrb)];unfold ee;simp only[hsy];simp
  have hblk:fg T most ⟨0,[],0⟩=(true,⟨bs.length+(aK ba 256).length,s,0⟩):=by
   unfold fg;simp only[adr];rw[if_neg acB,hn1,hn2,gy,hend];simp
  have hrun:gK T most ⟨0,[],0⟩=⟨bs.length+(aK ba 256).length,s,0⟩:=by
   rw[run_eq (ac5 _),hblk,if_pos (.inr rfl)]
  unfold fq;rw[hrun];simp only;rw[if_neg (by simp),htl,acD]
 ·have hl:=zg s;have he:=ZX s;have h2:=gZ s.length 2;have h3:=gZ (65535-s.length) 2;generalize hT:lk s++r=T at *
  have hTl:T.length=s.length+5+r.length:=by rw[<-hT,acD,hl]
  have get:∀k,k<s.length+5->T.getD k 0=(lk s).getD k 0:=λk hk=>by
   rw[<-hT,acC,List.getElem?_append_left acB,<-acC]
  have l2:∀x:Nat,bA x 2=[UInt8.ofNat (x%256),UInt8.ofNat (x/256%256)]:=λx=>by simp[bA,adJ]
  rw[l2,l2]at he;have g0:=get 0 acB;have g1:=get 1 acB;have g2:=get 2 acB;have g3:=get 3 acB;have g4:=get 4 acB
  have gk:∀k,k<s.length->T.getD (5+k) 0=s.getD k 0:=λk hk=>by
   rw[get (5+k) acB,he,show 5+k=k+4+1 by omega];simp
  rw[he]at g0 g1 g2 g3 g4
  have n0:numAt T 0 8=1:=by
   have:=kW T 0;rw[g0]at this;exact this
  have hn1:numAt T 0 1=1:=by rw[<-nr T 0 (show 1<=8 by decide),n0]
  have hn2:numAt T 1 2=0:=by
   have h3:numAt T 0 3=1:=by rw[<-nr T 0 (show 3<=8 by decide),n0]
   have:=nq T 0 (show 1<=3 by decide);rw[h3]at this;exact this.symm
  have na:numAt T 8 16=s.length:=two_bytes T 1 s.length g1 g2 acB;have nb:numAt T 24 16=65535-s.length:=two_bytes T 3 (65535-s.length) g3 g4 acB
  have hst:gm T most ⟨3,[],0⟩=⟨40+8*s.length,s,0⟩:=by
   unfold gm mh;simp only;rw[iC (S:=⟨(3+7)/8*8,[],0⟩) rfl (by simp only;omega)];simp only[show(3+7)/8*8=8 from rfl,na];rw[iC (S:=⟨8+16,[],0⟩) rfl (by simp only;omega)];simp only[show 8+16=24 from rfl,nb];rw[if_neg acB];exact Fj hm gk acB s.length 0 acB
  have hblk:fg T most ⟨0,[],0⟩=(true,⟨40+8*s.length,s,0⟩):=by
   unfold fg;simp only[adr];rw[if_neg acB,hn1,hn2,hst];simp
  have hrun:gK T most ⟨0,[],0⟩=⟨40+8*s.length,s,0⟩:=by
   rw[run_eq (ac5 _),hblk,if_pos (.inr rfl)]
  unfold fq;rw[hrun];simp only;rw[if_neg (by simp),hl]
  congr 2
  omega
theorem aco {s t:Bs} {most:Nat} (h:mq s t) (hs:s.length<=65535) (hm:s.length<=most) (r:Bs):dX (jN t s++r) most=(s,(jN t s).length,0):=by
 have hl:=gZ (dH s) 4;have hz:=Hi t s;have hbk:=ME h hs hm ((bA (dH s) 4).reverse++r);have e:jN t s++r=120::1::(t++((bA (dH s) 4).reverse++r)):=by simp[jN]
 have hd:(120::1::(t++((bA (dH s) 4).reverse++r)):Bs).drop 2=t++((bA (dH s) 4).reverse++r):=rfl
 have hd2:(120::1::(t++((bA (dH s) 4).reverse++r)):Bs).drop (2+t.length)=(bA (dH s) 4).reverse++r:=by
  rw[<-ad4,hd,List.drop_left]
 have ht4:((bA (dH s) 4).reverse++r).take 4=(bA (dH s) 4).reverse:=by
  rw[adY (by rw[adn,hl];exact acG _),acF (by rw[adn,hl];exact acG _)]
 have hbig:fS (bA (dH s) 4).reverse=dH s:=(JN _ (by rw[adn,hl]) _ (vY s)).2 rfl;unfold dX;rw[e,hd,hbk,if_neg (by simp),if_neg (by show ¬(oE 120 1=false);decide)];simp only;rw[if_neg (by simp),if_neg (by simp only[acH,acD,adn,hl];omega),hd2,ht4,hbig,if_neg (by simp),hz]
end Go.Proofs.YtgghhaahnpbnmaaGreatDoor.Pk
