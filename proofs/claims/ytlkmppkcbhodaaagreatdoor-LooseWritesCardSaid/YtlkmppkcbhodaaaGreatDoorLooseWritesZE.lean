/- The proof, part 31 of 34. -/
import Derived.Test.YtlkmppkcbhodaaaGreatDoorLooseWritesZC
set_option linter.all false
namespace Go.Proofs.YtlkmppkcbhodaaaGreatDoor.Pk
open Eng
set_option maxRecDepth 10000
theorem Yl (x n:Nat) {k:Nat} (h:k<n):(bo x n).reverse.take (k+1)=(bo x n).reverse.take k++[UInt8.ofNat (x/256^(n-1-k)%256)]:=by
 have hl:=fa x n
 rw[AD (bo x n) (by omega),hl]
 congr 2
 simp[bo,List.getD_eq_getElem?_getD,show n-1-k<n by omega]
theorem Fo (x n:Nat) (hx:x<9223372036854775808) (hn:n≤8):aP Tryz.prog 133 [.int .u64 x,.int .i64 n] (.str (bo x n).reverse):=by
 refine Cod.Fp (fun E R hN hR=>?_)
 have em:max (n:Int) 0=n:=by omega
 refine aw em ?_
 refine a7 hN (fun k:Nat=>⟨[(0,.int .u64 x),(1,.int .i64 n),(5,.sl 127029 0 k),(8,.int .i64 n),(9,.int .i64 k)],[(127029,.arr 1 (((bo x n).reverse.take k).map ub))]⟩) (fun k=>k≤n) (fun k=>n-k) 0 (.nil 5 127029 1 rfl (.le vV)) (by omega) ?_
 rintro k R1 hk hR1
 have hl:((bo x n).reverse.take k).length=k:=by rw[List.length_take,List.length_reverse,fa];omega
 by_cases hlt:k<n
 ·have hct:=Yl x n hlt
  have e8:¬(8:Int)<(n:Int)-(k:Int):=by omega
  have hsh:(x:Int).fdiv (2^min ((8*((n:Int)-1-(k:Int))).toNat) 64)=((x/256^(n-1-k):Nat):Int):=by
   have e1:(8*((n:Int)-1-(k:Int))).toNat=8*(n-1-k):=by omega
   rw[e1,Nat.min_eq_left (by omega),Int.fdiv_eq_ediv_of_nonneg _ (Int.pow_nonneg (by decide)),show(256:Nat)=2^8 from rfl,←Nat.pow_mul]
   norm_cast
  generalize x/256^(n-1-k)=y at *
  have e3:IntKind.u8.wrap (y:Int)=((UInt8.ofNat (y%256)).toNat:Int):=by
   rw[UInt8.toNat_ofNat']
   show(y:Int)%256=_
   omega
  refine cL e8 hsh e3 ?_
  exact hR1 (k+1) _ (by omega) (by omega) (.le (by rw[hct];simp(disch:=omega)only[go_sem,simprocAttr];simp[ub]))
 ·obtain rfl:k=n:=by omega
  rw[List.take_of_length_le (by rw[List.length_reverse,fa];omega)]at hl ⊢
  refine wW ?_
  exact hR.wk (h':=[]) (r':=.str (bo x k).reverse) (ar':=[.undef,.undef]) rfl (.le vV) ⟨rfl,rfl⟩
def ga (t s:Bs):Bs:=[120,1]++t++(bo (cC s) 4).reverse
theorem avn (s:Bs) (hs:s.length≤65535):Eng.Spec Tryz.prog 47 [] [.str s] (fun h r _=>h=[]∧∃t,jY s t∧r=.str (ga t s)):=by
 refine Cod.avo (fun E R hN hR=>?_)
 have hadl:=mb s
 refine wW ?_
 refine fy (Qx s hs) rfl ?_
 rintro h' v ar ⟨rfl,t,ht,rfl⟩
 refine⟨rfl,rfl,?_⟩
 have htl:=vL ht
 have hfr:aP Tryz.prog 90 [.str t,.str s] (.str (ga t s)):=by
  refine Cod.auL (fun E R hN hR=>?_)
  have ha:=ua s (by omega)
  have hb:=Fo (cC s) 4 (by omega) (by decide)
  have hll:=fa (cC s) 4
  unfold ga at hR
  rw[show((4:Nat):Int)=4 from rfl]at hb
  refine wW ?_
  refine aE ha rfl rfl ?_
  refine wW ?_
  refine aE hb rfl rfl ?_
  simp(disch:=omega)only[go_sem,simprocAttr,List.length_reverse,hll]
  exact hR.ro ⟨rfl,by simp⟩
 refine wW ?_
 refine aE hfr rfl rfl ?_
 refine wW ?_
 exact hR.ro ⟨rfl,t,ht,rfl⟩
theorem tS (t s:Bs):(ga t s).length=t.length+6:=by
 have:=fa (cC s) 4
 simp only[ga,List.length_append,List.length_reverse,List.length_cons,List.length_nil]
 omega
theorem JZ {s:Bs} {q:Nat} {bs:List Bool} (h:gN s q bs):∃B,bs=ct 3 3++B:=by
 induction h with
 | nil=>exact⟨[],by simp⟩
 | lit q bs h hq ih=>obtain⟨B,rfl⟩:=ih;exact⟨_,List.append_assoc ..⟩
 | rep q bs n b i j h h1 h2 ih=>obtain⟨B,rfl⟩:=ih;exact⟨_,List.append_assoc ..⟩
theorem BN (s:Bs):fV s=1::(bo s.length 2++bo (65535-s.length) 2++s):=by
 have h1:(dJ (ct 1 3)).length=8*1:=by rw[nG,fb]
 have h2:=ze (dJ (ct 1 3)) (bo s.length 2++bo (65535-s.length) 2++s) 1 h1
 have h3:=fS (bo s.length 2++bo (65535-s.length) 2++s) 0
 have h4:dk (dJ (ct 1 3)) 1=[1]:=by decide
 rw[h4]at h2
 unfold fV eC kP
 rw[List.length_append,h1,h3,show(8*1+(8*(bo s.length 2++bo (65535-s.length) 2++s).length-0)+7)/8=1+(bo s.length 2++bo (65535-s.length) 2++s).length by omega,h2]
 rfl
theorem two_bytes (t:Bs) (a x:Nat) (h0:t.getD a 0=UInt8.ofNat (x%256)) (h1:t.getD (a+1) 0=UInt8.ofNat (x/256%256)) (hx:x<65536):numAt t (8*a) 16=x:=by
 rw[yT t (8*a) 8 8,jg,show 8*a+8=8*(a+1)by omega,jg,h0,h1,UInt8.toNat_ofNat',UInt8.toNat_ofNat']
 omega
theorem Ap {s T:Bs} {most:Nat} (hm:s.length≤most) (hT:∀k,k<s.length→T.getD (5+k) 0=s.getD k 0) (hl:5+s.length≤T.length):∀(m k:Nat),k+m=s.length→rawS T most m ⟨40+8*k,s.take k,0⟩=⟨40+8*s.length,s,0⟩
 | 0,k,h=>by
  obtain rfl:k=s.length:=by omega
  rw[List.take_of_length_le (Nat.le_refl _)]
  rfl
 | m+1,k,h=>by
  have htl:(s.take k).length=k:=by rw[List.length_take];omega
  have hnum:aH T 8 ⟨40+8*k,s.take k,0⟩=((s.getD k 0).toNat,⟨40+8*k+8,s.take k,0⟩):=by
   rw[ez rfl (by simp only;omega)]
   simp only
   rw[show 40+8*k=8*(5+k)by omega,jg,hT k (by omega)]
  have hsn:=dU s 0 (show k<s.length by omega)
  rw[rawS]
  simp only[hnum,cZ,htl]
  rw[if_neg (by simp),if_neg (by simp),if_neg (by omega),UInt8.ofNat_toNat,←hsn,show 40+8*k+8=40+8*(k+1)by omega]
  exact Ap hm hT hl m (k+1) (by omega)
theorem I6 {s t:Bs} {most:Nat} (h:jY s t) (hs:s.length≤65535) (hm:s.length≤most) (r:Bs):dF (t++r) most=(s,t.length,0):=by
 rcases h with⟨bs,henc,rfl,_⟩ | rfl
 ·obtain⟨R,hR⟩:=alf (bs++aX bl 256) r
  have htl:(eC (bs++aX bl 256)).length=((bs++aX bl 256).length+7)/8:=jh _ _
  generalize hT:eC (bs++aX bl 256)++r=T at *
  have hTl:T.length=(eC (bs++aX bl 256)).length+r.length:=by rw[←hT,List.length_append]
  rw[List.append_assoc]at hR
  have hpk:=(JY hm (Nat.zero_le _) henc _ hR).2
  rw[List.take_of_length_le (Nat.le_refl _),Nat.zero_add,Nat.zero_add]at hpk
  obtain⟨B,hB⟩:=JZ henc
  have hR2:aR T 0=ct 3 3++(B++(aX bl 256++R)):=by rw[hR,hB,List.append_assoc]
  have hn3:=yS hR2 (Nat.zero_le _) (by decide:3<2^3)
  have hr3:=jk hR2 (Nat.zero_le _)
  rw[fb]at hr3
  have hn1:numAt T 0 1=1:=by rw[←kF T 0 (show 1≤3 by decide),hn3]
  have hn2:numAt T 1 2=1:=by
   have:=kD T 0 (show 1≤3 by decide)
   rw[hn3]at this
   exact this.symm
  have hrb:=jk hR (Nat.zero_le _)
  rw[Nat.zero_add]at hrb
  have hon:=lT hR
  rw[Nat.zero_add]at hon
  have hsy:=qk (S:=⟨bs.length,s,0⟩) (s:=256) ki jA (by rw[jB];decide) (kj _ (by decide)) hon rfl
  have hend:cT T most bl bT ⟨bs.length,s,0⟩=⟨bs.length+(aX bl 256).length,s,0⟩:=by
   rw[mO (by simpa using hrb)]
   unfold dp
   simp only[hsy]
   simp
  have hblk:de T most ⟨0,[],0⟩=(true,⟨bs.length+(aX bl 256).length,s,0⟩):=by
   unfold de
   simp only[Nat.zero_add]
   rw[if_neg (by omega),hn1,hn2,hpk,hend]
   simp
  have hrun:fi T most ⟨0,[],0⟩=⟨bs.length+(aX bl 256).length,s,0⟩:=by
   rw[run_eq (Nat.zero_le _),hblk,if_pos (.inr rfl)]
  unfold dF
  rw[hrun]
  simp only
  rw[if_neg (by simp),htl,List.length_append]
 ·have hl:=qj s
  have he:=BN s
  have h2:=fa s.length 2
  have h3:=fa (65535-s.length) 2
  generalize hT:fV s++r=T at *
  have hTl:T.length=s.length+5+r.length:=by rw[←hT,List.length_append,hl]
  have get:∀k,k<s.length+5→T.getD k 0=(fV s).getD k 0:=fun k hk=>by
   rw[←hT,List.getD_eq_getElem?_getD,List.getElem?_append_left (by omega),←List.getD_eq_getElem?_getD]
  have l2:∀x:Nat,bo x 2=[UInt8.ofNat (x%256),UInt8.ofNat (x/256%256)]:=fun x=>by simp[bo,List.range_succ]
  rw[l2,l2]at he
  have g0:=get 0 (by omega)
  have g1:=get 1 (by omega)
  have g2:=get 2 (by omega)
  have g3:=get 3 (by omega)
  have g4:=get 4 (by omega)
  have gk:∀k,k<s.length→T.getD (5+k) 0=s.getD k 0:=fun k hk=>by
   rw[get (5+k) (by omega),he,show 5+k=k+4+1 by omega]
   simp
  rw[he]at g0 g1 g2 g3 g4
  have n0:numAt T 0 8=1:=by
   have:=jg T 0
   rw[g0]at this
   exact this
  have hn1:numAt T 0 1=1:=by rw[←kF T 0 (show 1≤8 by decide),n0]
  have hn2:numAt T 1 2=0:=by
   have h3:numAt T 0 3=1:=by rw[←kF T 0 (show 3≤8 by decide),n0]
   have:=kD T 0 (show 1≤3 by decide)
   rw[h3]at this
   exact this.symm
  have na:numAt T 8 16=s.length:=two_bytes T 1 s.length g1 g2 (by omega)
  have nb:numAt T 24 16=65535-s.length:=two_bytes T 3 (65535-s.length) g3 g4 (by omega)
  have hst:dT T most ⟨3,[],0⟩=⟨40+8*s.length,s,0⟩:=by
   unfold dT gn
   simp only
   rw[ez (S:=⟨(3+7)/8*8,[],0⟩) rfl (by simp only;omega)]
   simp only[show(3+7)/8*8=8 from rfl,na]
   rw[ez (S:=⟨8+16,[],0⟩) rfl (by simp only;omega)]
   simp only[show 8+16=24 from rfl,nb]
   rw[if_neg (by omega)]
   exact Ap hm gk (by omega) s.length 0 (by omega)
  have hblk:de T most ⟨0,[],0⟩=(true,⟨40+8*s.length,s,0⟩):=by
   unfold de
   simp only[Nat.zero_add]
   rw[if_neg (by omega),hn1,hn2,hst]
   simp
  have hrun:fi T most ⟨0,[],0⟩=⟨40+8*s.length,s,0⟩:=by
   rw[run_eq (Nat.zero_le _),hblk,if_pos (.inr rfl)]
  unfold dF
  rw[hrun]
  simp only
  rw[if_neg (by simp),hl]
  congr 2
  omega
theorem CA {s t:Bs} {most:Nat} (h:jY s t) (hs:s.length≤65535) (hm:s.length≤most) (r:Bs):fG (ga t s++r) most=(s,(ga t s).length,0):=by
 have hl:=fa (cC s) 4
 have hz:=tS t s
 have hbk:=I6 h hs hm ((bo (cC s) 4).reverse++r)
 have e:ga t s++r=120::1::(t++((bo (cC s) 4).reverse++r)):=by simp[ga]
 have hd:(120::1::(t++((bo (cC s) 4).reverse++r)):Bs).drop 2=t++((bo (cC s) 4).reverse++r):=rfl
 have hd2:(120::1::(t++((bo (cC s) 4).reverse++r)):Bs).drop (2+t.length)=(bo (cC s) 4).reverse++r:=by
  rw[←List.drop_drop,hd,List.drop_left]
 have ht4:((bo (cC s) 4).reverse++r).take 4=(bo (cC s) 4).reverse:=by
  rw[List.take_append_of_le_length (by rw[List.length_reverse,hl];exact Nat.le_refl _),List.take_of_length_le (by rw[List.length_reverse,hl];exact Nat.le_refl _)]
 have hbig:eT (bo (cC s) 4).reverse=cC s:=(uI _ (by rw[List.length_reverse,hl]) _ (mb s)).2 rfl
 unfold fG
 rw[e,hd,hbk,if_neg (by simp),if_neg (by show ¬(iC 120 1=false);decide)]
 simp only
 rw[if_neg (by simp),if_neg (by simp only[List.length_cons,List.length_append,List.length_reverse,hl];omega),hd2,ht4,hbig,if_neg (by simp),hz]
end Go.Proofs.YtlkmppkcbhodaaaGreatDoor.Pk
