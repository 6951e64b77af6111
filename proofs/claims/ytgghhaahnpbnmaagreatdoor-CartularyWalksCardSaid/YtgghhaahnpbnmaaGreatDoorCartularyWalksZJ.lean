/- The proof, part 36 of 51. -/
import Derived.Test.YtgghhaahnpbnmaaGreatDoorCartularyWalksZH
import Derived.Test.YtgghhaahnpbnmaaGreatDoorCartularyWalksZI
import Derived.Lib.SlicesCompact
import Derived.Shelf.Strings.Prefix
set_option linter.all false
namespace Go.Proofs.YtgghhaahnpbnmaaGreatDoor.Ls
open Eng
set_option maxRecDepth 10000
open Eng
set_option maxRecDepth 10000
theorem kJ {s:Bs} (h:cd s=true):s.length=40/\s.all jZ=true:=by
 unfold cd lR at h;rw[acN,acN,decide_eq_true_eq,decide_eq_true_eq]at h;exact⟨h.2,h.1.1⟩
abbrev Rw:=Bs×Nat×Nat
abbrev ga:Rw:=([],0,0)
def l8 (r:Rw):AV:=.agg [.str r.1,.int .i64 (r.2.1:Nat),.int .u32 (r.2.2:Nat)]
def a8 (L:List Rw):List AV:=L.map l8
theorem qV {L:List Rw} {i:Nat} (h:i<L.length):nth (a8 L) i=.agg [.str (L.getD i ga).1,.int .i64 ((L.getD i ga).2.1:Nat),.int .u32 ((L.getD i ga).2.2:Nat)]:=by
 simp[nth,a8,l8,acC,h]
theorem jb (L:List Rw):(a8 L).length=L.length:=by simp[a8]
theorem Ye {L:List Rw}:(a8 L).all aD=true:=by simp[a8,l8,aD,cellsOf,isCell]
theorem Yd {L:List Rw} {a:Bs} {b c:Nat}:a8 L++[.agg [.str a,.int .i64 (b:Nat),.int .u32 (c:Nat)]]=a8 (L++[(a,b,c)]):=by simp[a8,l8]
theorem Yf:a8 []=[]:=(rfl)
theorem Fy (L:List Rw):aB (a8 L) 0 L.length=a8 L:=by
 unfold aB;rw[adp,acF (by rw[jb];omega)]
def cy (s:Bs) (o n:Nat):Bs:=(s.drop o).take n
theorem kE {s:Bs} {o n:Nat} (h:o+n<=s.length):(cy s o n).length=n:=by unfold cy;rw[acJ,acK];omega
theorem fj (s:Bs) (o n:Nat):(s.drop o).take n=cy s o n:=rfl
def du (s:Bs) (i:Nat):Nat:=if i=0 then 0 else cE (cy s (4+4*i) 4)
def cT (s:Bs) (k:Nat):List AV:=(List.range 257).map λi=>.int .i64 ((if i<=k then du s i else 0:Nat):Int)
theorem xi (s:Bs) (i:Nat):du s i<4294967296:=by
 unfold du;split;omega
 exact pU (n:=4) (by unfold cy;rw[acJ];omega)
theorem lL (s:Bs) (k:Nat):(cT s k).length=257:=by simp[cT]
theorem qk (s:Bs) (k:Nat) {i:Nat} (h:i<257):(cT s k).getD i .undef=.int .i64 ((if i<=k then du s i else 0:Nat):Int):=by
 unfold cT;rw[acC,List.getElem?_map,List.getElem?_range h];rfl
theorem NV (s:Bs) {k:Nat} (h:k<256):(cT s k).set (k+1) (.int .i64 (du s (k+1):Nat))=cT s (k+1):=by
 apply adW;intro j;rw[List.getElem?_set,lL];unfold cT;rw[List.getElem?_map,List.getElem?_map];by_cases hx:k+1=j
 ·subst hx;rw[if_pos rfl,if_pos acB,List.getElem?_range acB];simp
 ·rw[if_neg hx];by_cases hj:j<257
  ·rw[List.getElem?_range hj];simp only[ac7];by_cases h1:j<=k
   ·rw[if_pos h1,if_pos acB]
   ·rw[if_neg h1,if_neg acB]
  ·rw[List.getElem?_eq_none (by simp;omega)];rfl
theorem Cp {id:Nat} {s:Bs} {k:Nat}:(cT s k).map (killC id)=cT s k:=by simp[cT,killC]
theorem NT {id sz:Nat} {es:List AV} {s:Bs} {k:Nat}:(cT s k).map (bR id sz es)=cT s k:=by simp[cT,bR]
theorem NU {s:Bs} {k:Nat}:(cT s k).all noRefC=true:=by simp[cT,noRefC]
theorem jq {a b:AV} {xs:List AV} {i:Nat} (h:i<xs.length):((a::(xs++[b])).drop (1+i)).getD 0 .undef=xs.getD i .undef:=by
 rw[aeu,adw,acC,List.getElem?_drop,adA,List.getElem?_append_left h,acC]
theorem jr {a b:AV} {xs:List AV} {i:Nat} (h:i<xs.length):0<((a::(xs++[b])).drop (1+i)).length:=by simp;omega
theorem OG {a b v:AV} {xs:List AV} {i:Nat} (h:i<xs.length):bV (a::(xs++[b])) (1+i) [v]=a::(xs.set i v++[b]):=by
 unfold bV;rw[aeu 1 i,adF,show i+1+[v].length=(i+1)+1 by simp,adw,adY acB,adq acB,ad6,if_pos h];simp
def fp (s:Bs) (n:Nat):Nat:=s.length-40-(1032+28*n)
def oY (s:Bs) (k:Nat):Bs:=cy s (1032+20*k) 20
def sE (s:Bs) (k:Nat):Nat:=((oY s k).getD 0 0).toNat
def pT (s:Bs) (k:Nat):Prop:=(0<k/\Op.bytesLess (cy s (1012+20*k) 20) (oY s k)=false)\/k<du s (sE s k)\/du s (sE s k+1)<=k
def hU (s:Bs) (n k:Nat):Nat:=cE (cy s (1032+24*n+4*k) 4)
def k8 (s:Bs) (n k:Nat):Nat:=if 2147483648<=hU s n k then cE (cy (cy s (1032+28*n) (fp s n)) (8*(hU s n k-2147483648)) 8)else hU s n k
open Classical in
noncomputable def l9 (s:Bs) (n j:Nat):Except Int Rw:=
 if pT s j then .error 3
 else if 2147483648<=hU s n j/\fp s n/8<=hU s n j-2147483648 then .error 3
 else if 1099511627776<k8 s n j then .error 2
 else .ok (Sh.b7 (oY s j),k8 s n j,cE (cy s (1032+20*n+4*j) 4))
noncomputable def rowsP (s:Bs) (n:Nat):Nat->Except Int (List Rw)
 | 0=>.ok []
 | k+1=>match rowsP s n k with
  | .error e=>.error e
  | .ok l=>match l9 s n k with
   | .error e=>.error e
   | .ok r=>.ok (l++[r])
theorem Fz {s:Bs} {n:Nat} {e:Int}:∀{m k:Nat},k<=m->rowsP s n k=.error e->rowsP s n m=.error e
 | 0,k,h,h1=>by
  obtain rfl:k=0:=acB
  exact h1
 | m+1,k,h,h1=>by
  by_cases hk:k=m+1
  ·subst hk;exact h1
  ·unfold rowsP;rw[Fz (by omega:k<=m) h1]
theorem FA {s:Bs} {n:Nat}:∀{k:Nat} {l:List Rw},rowsP s n k=.ok l->l.length=k
 | 0,l,h=>by
  unfold rowsP at h
  cases h;rfl
 | k+1,l,h=>by
  unfold rowsP at h
  cases h1:rowsP s n k with
  | error e=>rw[h1]at h;cases h
  | ok l'=>
   rw[h1]at h
   cases h2:l9 s n k with
   | error e=>rw[h2]at h;cases h
   | ok r=>
    rw[h2]at h;cases h;rw[acD,FA h1];rfl
def Co (s:Bs):Prop:=∀i,i<256->du s i<=du s (i+1)
open Classical in
noncomputable def iE (s:Bs):Except Int (List Rw×Bs):=
 let n:=du s 256
 if s.length<1072 then .error 6
 else if s.take 8≠[255,116,79,99,0,0,0,2]then .error 3
 else if ¬Co s then .error 3
 else if 1000<n then .error 2
 else if s.length<1072+28*n then .error 6
 else if fp s n%8≠0 then .error 3
 else match rowsP s n n with
  | .error e=>.error e
  | .ok l=>if Sh.dR (s.take (s.length-20))≠s.drop (s.length-20)then .error 5 else .ok (l,Sh.b7 (cy s (s.length-40) 20))
abbrev eL (s:Bs) (p:List Rw×Bs):AV:=.ao (.agg (.ro 3 (a8 p.1)::(cT s 256++[.str p.2])))
def parseA (s:Bs):Except Int (List Rw×Bs)->AV
 | .error e=>.ab [.lit (.pointer none),.int .i64 e]
 | .ok p=>.ab [eL s p,.int .i64 0]
set_option maxHeartbeats 4000000 in
theorem ab9 (s:Bs) (hs:s.length<=100000):aw Tryz.prog 35 [.str s] (parseA s (iE s)):=by
 refine Cod.aca (λE R hN hR=>?_);have bad:∀{h} (e:Int),iE s=.error e->R h (.ab [.lit (.pointer none),.int .i64 e]) [.undef]:=λe he=>hR.ro ⟨rfl,by rw[he];rfl⟩;by_cases h0:s.length<1072
 ·refine wW ?_;exact bad 6 (by unfold iE;rw[if_pos h0])
 by_cases h1:s.take 8=[255,116,79,99,0,0,0,2];rotate_left
 ·refine ah h1 ?_;exact bad 3 (by unfold iE;rw[if_neg h0,if_pos h1])
 refine ah h1 ?_;refine aJ hN (λk:Nat=>⟨[(0,.str s),(4,.aa 240019 0),(20,.int .i64 k)],[(240019,.var (.an::(cT s k++[.str []])))]⟩) (λk=>k<=256/\∀i,i<k->du s i<=du s (i+1)) (λk=>256-k) 0 (.le (by simp(disch:=first | omega | (simp only[Lx];omega))only[go_sem,simprocAttr];rfl)) ⟨acB,λi h=>by omega⟩ ?_
 rintro k R1 ⟨hk,hmono⟩ hR1;by_cases hlt:k<256
 ·have e1:((8:Int)+4*(k:Int)).toNat=8+4*k:=acB;have e2:((12:Int)+4*(k:Int)).toNat=12+4*k:=acB;have e3:12+4*k-(8+4*k)=4:=acB;have hb:=oy (cy s (8+4*k) 4) (by rw[kE acB];omega)
  have hfe:cE (cy s (8+4*k) 4)=du s (k+1):=by
   unfold du;rw[if_neg acB,show 4+4*(k+1)=8+4*k by omega]
  rw[hfe]at hb;have hl:=xi s (k+1);have hl2:=xi s k;have hst:=NV s hlt;have hfl:=lL s k;have hfl1:=lL s (k+1);have hg0:=qk s (k+1) (i:=k) acB;have hg1:=qk s (k+1) (i:=k+1) acB;rw[if_pos acB]at hg0 hg1;refine cW e1 e2 e3 @fj ?_;refine aj hb rfl rfl ?_;have e4:((k:Int)+1).toNat=k+1:=acB;simp(disch:=first | omega | (simp only[Lx];omega))only[go_sem,simprocAttr,jq,jr,OG,adB,e4,hst,hg0,hg1]
  by_cases hm:du s k<=du s (k+1)
  ·have hi:¬((du s (k+1):Nat):Int)<(du s k:Nat):=acB;refine ah hi ?_;refine hR1 (k+1) _ acB ⟨acB,λi h=>?_⟩ (.le vV);rcases aeE.1 h with h | rfl;exact hmono i h;exact hm
  ·have hi:((du s (k+1):Nat):Int)<(du s k:Nat):=acB;refine ah hi ?_;exact bad 3 (by unfold iE;rw[if_neg h0,if_neg (λh=>h h1),if_pos (λh=>hm (h k hlt))])
 ·obtain rfl:k=256:=acB;have hok:Co s:=λi h=>hmono i h;have hl:=xi s 256;have hfl:=lL s 256;have hg:=qk s 256 (i:=256) acB;rw[if_pos acB]at hg;obtain⟨n,hn⟩:∃n,n=du s 256:=⟨_,rfl⟩;rw[<-hn]at hl hg
  have hb0:iE s=(if 1000<n then .error 2
   else if s.length<1072+28*n then .error 6
   else if fp s n%8≠0 then .error 3
   else match rowsP s n n with
    | .error e=>.error e
    | .ok l=>if Sh.dR (s.take (s.length-20))≠s.drop (s.length-20)then .error 5 else .ok (l,Sh.b7 (cy s (s.length-40) 20))):=by
   unfold iE;rw[if_neg h0,if_neg (λh=>h h1),if_neg (λh=>h hok),<-hn]
  have hd0:((cT s 256++[AV.str []]).drop 256).getD 0 .undef=.int .i64 n:=by
   rw[<-hg,acC,List.getElem?_drop,adA,List.getElem?_append_left acB,acC]
  have hd1:0<((cT s 256++[AV.str []]).drop 256).length:=by simp;omega
  refine aV hd0 hd1 ?_;by_cases g1:1000<n
  ·have hi:(1000:Int)<(n:Int):=acB;refine ah hi ?_;exact bad 2 (by rw[hb0,if_pos g1])
  have hi:¬(1000:Int)<(n:Int):=acB;rw[if_neg g1]at hb0;refine ah hi ?_;by_cases g2:s.length<1072+28*n
  ·refine wW ?_;exact bad 6 (by rw[hb0,if_pos g2])
  rw[if_neg g2]at hb0;have ea:((1032:Int)+28*(n:Int)).toNat=1032+28*n:=acB;have eb:((s.length:Int)-40).toNat-(1032+28*n)=fp s n:=by unfold fp;omega
  have efl:(cy s (1032+28*n) (fp s n)).length=fp s n:=kE (by unfold fp;omega);refine cW ea eb @fj efl ?_;by_cases g3:fp s n%8=0;rotate_left
  ·have hi:¬((fp s n:Nat):Int)%8=0:=acB;refine aV efl hi ?_;exact bad 3 (by rw[hb0,if_pos g3])
  have hi:((fp s n:Nat):Int)%8=0:=acB;rw[if_neg (λh=>h g3)]at hb0;refine aV efl hi ?_;obtain⟨F,hF⟩:∃F,F=cy s (1032+28*n) (fp s n):=⟨_,rfl⟩;rw[<-hF]at efl;rw[<-hF];have hn1:n<=1000:=acB
  refine aJ hN (λp:Nat×List Rw=>⟨[(0,.str s),(4,.aa 240019 0),(6,.int .i64 n),(7,.str F),(80,.int .i64 n),(81,.int .i64 p.1)],[(240019,.var (.sl 240196 0 p.2.length::(cT s 256++[.str []]))),(240196,.arr 3 (a8 p.2))]⟩)
   (λp=>p.1<=n/\rowsP s n p.1=.ok p.2) (λp=>n-p.1) (0,[]) (.iW 240019 0 240196 3 (.an::(cT s 256++[.str []])) rfl rfl rfl (.le (by simp(disch:=first | omega | (simp only[Lx];omega))only[go_sem,simprocAttr,adk,ady,Cp,List.set_cons_zero,Yf]))) ⟨acB,rfl⟩ ?_
  rintro⟨k,l⟩ R2 ⟨hk2,hrows⟩ hR2;simp only at hk2 hrows;have hll:=FA hrows;by_cases hlt2:k<n
  ·have hrb:1032+20*k+20<=s.length:=acB;have c1:((1032:Int)+20*(k:Int)).toNat=1032+20*k:=acB;have c2:((1032:Int)+20*(k:Int)+20).toNat-(1032+20*k)=20:=acB;have hrl:=kE hrb;change (oY s k).length=20 at hrl;have hrw:cy s (1032+20*k) 20=oY s k:=rfl;obtain⟨raw,hraw⟩:∃raw,raw=oY s k:=⟨_,rfl⟩;have hch:(raw.getD 0 0).toNat=sE s k:=by rw[hraw];rfl
   rw[<-hraw]at hrl hrw;have hcb:=(raw.getD 0 0).toNat_lt;obtain⟨c,hc⟩:∃c,c=sE s k:=⟨_,rfl⟩;rw[hch,<-hc]at hcb;rw[<-hc]at hch;have hf0:=qk s 256 (i:=c) acB;have hf1:=qk s 256 (i:=c+1) acB;rw[if_pos acB]at hf0 hf1
   have badr:∀{h} (e:Int),l9 s n k=.error e->R h (.ab [.lit (.pointer none),.int .i64 e]) [.undef]:=λe he=>bad e (by
    have h1:rowsP s n (k+1)=.error e:=by unfold rowsP;rw[hrows];simp only[he]
    rw[hb0,Fz (by omega:k+1<=n) h1])
   have bad3:∀{h},pT s k->R h (.ab [.lit (.pointer none),.int .i64 3]) [.undef]:=λh=>badr 3 (by unfold l9;rw[if_pos h]);refine cW c1 c2 @fj hrw ?_;have c3:((1032:Int)+20*(k:Int)-20).toNat=1012+20*k:=acB;have c4:1032+20*k-(1012+20*k)=20:=acB;have c5:((c:Int)+1).toNat=c+1:=acB;obtain⟨prev,hprev⟩:∃prev,prev=cy s (1012+20*k) 20:=⟨_,rfl⟩;obtain⟨fc,hfc⟩:∃fc,fc=du s c:=⟨_,rfl⟩;obtain⟨fd,hfd⟩:∃fd,fd=du s (c+1):=⟨_,rfl⟩;rw[<-hfc]at hf0;rw[<-hfd]at hf1
   have hbr:pT s k↔(0<k/\Op.bytesLess prev raw=false)\/k<fc\/fd<=k:=by
    unfold pT;rw[<-hc,<-hraw,<-hprev,<-hfc,<-hfd]
   by_cases hA:0<k/\Op.bytesLess prev raw=false
   ·have hi:(0:Int)<(k:Int):=acB;have hA2:=hA.2;simp(disch:=first | omega | (simp only[Lx];omega))only[go_sem,simprocAttr,hi,c1,c3,c4,fj,<-hprev,hA2,adz,adM]
    (repeat(first | refine eJ ?_ | refine eH ?_ | refine eI ?_)<;>simp(disch:=first | omega | (simp only[Lx];omega))only[go_sem,simprocAttr,hi,c1,c3,c4,fj,<-hprev,hA2,adz,adM])
    exact bad3 (hbr.2 (.inl hA))
   have hsel:(¬(0:Int)<(k:Int)/\¬(0:Int)<(k:Int))\/((0:Int)<(k:Int)/\Op.bytesLess prev raw=true):=by
    by_cases h:0<k
    ·exact .inr ⟨acB,by
      cases h2:Op.bytesLess prev raw with
      | true=>rfl
      | false=>exact absurd ⟨h,h2⟩ hA⟩
    exact .inl ⟨acB,acB⟩
   by_cases hB:k<fc
   ·have hiB:(k:Int)<(fc:Int):=acB;rcases hsel with⟨hi,hA2⟩ | ⟨hi,hA2⟩
    ·simp(disch:=first | omega | (simp only[Lx];omega))only[go_sem,simprocAttr,hi,c1,c3,c4,c5,fj,<-hprev,adz,adM,jq,jr,adB,hch,hf0,hf1]
     (repeat(first | refine eJ ?_ | refine eH ?_ | refine eI ?_)<;>simp(disch:=first | omega | (simp only[Lx];omega))only[go_sem,simprocAttr,hi,c1,c3,c4,c5,fj,<-hprev,adz,adM,jq,jr,adB,hch,hf0,hf1])
     exact bad3 (hbr.2 (.inr (.inl hB)))
    ·simp(disch:=first | omega | (simp only[Lx];omega))only[go_sem,simprocAttr,hi,hA2,c1,c3,c4,c5,fj,<-hprev,adz,adM,jq,jr,adB,hch,hf0,hf1]
     (repeat(first | refine eJ ?_ | refine eH ?_ | refine eI ?_)<;>simp(disch:=first | omega | (simp only[Lx];omega))only[go_sem,simprocAttr,hi,hA2,c1,c3,c4,c5,fj,<-hprev,adz,adM,jq,jr,adB,hch,hf0,hf1])
     exact bad3 (hbr.2 (.inr (.inl hB)))
   have hiB:¬(k:Int)<(fc:Int):=acB;by_cases hC:fd<=k
   ·have hiC:(fd:Int)<=(k:Int):=acB;rcases hsel with⟨hi,hA2⟩ | ⟨hi,hA2⟩
    ·simp(disch:=first | omega | (simp only[Lx];omega))only[go_sem,simprocAttr,hi,hiB,hiC,c1,c3,c4,c5,fj,<-hprev,adz,adM,jq,jr,adB,hch,hf0,hf1]
     (repeat(first | refine eJ ?_ | refine eH ?_ | refine eI ?_)<;>simp(disch:=first | omega | (simp only[Lx];omega))only[go_sem,simprocAttr,hi,hiB,hiC,c1,c3,c4,c5,fj,<-hprev,adz,adM,jq,jr,adB,hch,hf0,hf1])
     exact bad3 (hbr.2 (.inr (.inr hC)))
    ·simp(disch:=first | omega | (simp only[Lx];omega))only[go_sem,simprocAttr,hi,hiB,hiC,hA2,c1,c3,c4,c5,fj,<-hprev,adz,adM,jq,jr,adB,hch,hf0,hf1]
     (repeat(first | refine eJ ?_ | refine eH ?_ | refine eI ?_)<;>simp(disch:=first | omega | (simp only[Lx];omega))only[go_sem,simprocAttr,hi,hiB,hiC,hA2,c1,c3,c4,c5,fj,<-hprev,adz,adM,jq,jr,adB,hch,hf0,hf1])
     exact bad3 (hbr.2 (.inr (.inr hC)))
   have hiC:¬(fd:Int)<=(k:Int):=acB;rcases hsel with⟨hi,hA2⟩ | ⟨hi,hA2⟩
   all_goals
    simp(disch:=first | omega | (simp only[Lx];omega))only[go_sem,simprocAttr,hi,hiB,hiC,hA2,c1,c3,c4,c5,fj,<-hprev,adz,adM,jq,jr,adB,hch,hf0,hf1]
    (repeat(first | refine eJ ?_ | refine eH ?_ | refine eI ?_)<;>simp(disch:=first | omega | (simp only[Lx];omega))only[go_sem,simprocAttr,hi,hiB,hiC,hA2,c1,c3,c4,c5,fj,<-hprev,adz,adM,jq,jr,adB,hch,hf0,hf1])
    have d1:((1032:Int)+24*(n:Int)+4*(k:Int)).toNat=1032+24*n+4*k:=acB;have d2:((1032:Int)+24*(n:Int)+4*(k:Int)+4).toNat-(1032+24*n+4*k)=4:=acB;have d3:((1032:Int)+20*(n:Int)+4*(k:Int)).toNat=1032+20*n+4*k:=acB;have d4:((1032:Int)+20*(n:Int)+4*(k:Int)+4).toNat-(1032+20*n+4*k)=4:=acB;have hbn:=oy (cy s (1032+24*n+4*k) 4) (by rw[kE acB];omega);have hbc:=oy (cy s (1032+20*n+4*k) 4) (by rw[kE acB];omega);have hnl:hU s n k<4294967296:=pU (n:=4) (by rw[kE acB];omega);have hcl:cE (cy s (1032+20*n+4*k) 4)<4294967296:=pU (n:=4) (by rw[kE acB];omega);rw[d1,d2];refine aj hbn rfl rfl ?_;change hU s n k<4294967296 at hnl;rw[show cE (cy s (1032+24*n+4*k) 4)=hU s n k from rfl]
    have hnb:¬pT s k:=λh=>by
     rcases hbr.1 h with h | h | h;exact hA h;exact hB h;exact hC h
    have aL:k8 s n k=if 2147483648<=hU s n k then cE (cy F (8*(hU s n k-2147483648)) 8)else hU s n k:=by unfold k8;rw[<-hF]
    have hrp:l9 s n k=(if 2147483648<=hU s n k/\fp s n/8<=hU s n k-2147483648 then .error 3
     else if 1099511627776<k8 s n k then .error 2
     else .ok (Sh.b7 raw,k8 s n k,cE (cy s (1032+20*n+4*k) 4))):=by unfold l9;rw[if_neg hnb,hraw]
    obtain⟨q,hq⟩:∃q,q=hU s n k:=⟨_,rfl⟩;obtain⟨cr,hcr⟩:∃cr,cr=cE (cy s (1032+20*n+4*k) 4):=⟨_,rfl⟩;rw[<-hq]at hnl aL hrp;rw[<-hcr]at hcl hrp hbc;rw[<-hq]
    have hpb:k8 s n k<18446744073709551616:=by
     rw[aL];split;exact acR (pU (n:=8) (by unfold cy;rw[acJ];exact Nat.min_le_left ..)) (by decide);omega
    refine wW ?_;refine gn (y:=Cod.ab8) hN (λ_:Unit=>⟨[(0,.str s),(4,.aa 240019 0),(6,.int .i64 n),(7,.str F),(8,.int .i64 k),(9,.str raw),(10,.int .u64 (k8 s n k:Nat)),(80,.int .i64 n),(81,.int .i64 k)],[(240019,.var (.sl 240196 0 l.length::(cT s 256++[.str []]))),(240196,.arr 3 (a8 l))]⟩) (λ_=>¬(2147483648<=q/\fp s n/8<=q-2147483648)) (λR3 hR3=>?_) ?_
    ·by_cases hf:2147483648<=q
     ·have hif:(2147483648:Int)<=(q:Int):=acB;rw[if_pos hf]at aL;refine ah hif ?_;obtain⟨j,hj⟩:∃j,j=q-2147483648:=⟨_,rfl⟩;have e1:((q:Int)-2147483648)=(j:Int):=acB;by_cases hg:fp s n/8<=j
      ·have hig:((fp s n:Nat):Int)/8<=(j:Int):=acB;refine cI e1 efl hig ?_;exact badr 3 (by rw[hrp,if_pos ⟨hf,acB⟩])
      ·have hig:¬((fp s n:Nat):Int)/8<=(j:Int):=acB;have h8:=oy (cy F (8*j) 8) (by rw[kE acB];omega);have d5:((8:Int)*(j:Int)).toNat=8*j:=acB;have d6:((8:Int)*(j:Int)+8).toNat-8*j=8:=acB;refine rQ e1 efl hig d5 d6 @fj ?_;refine aj h8 rfl rfl ?_;rw[<-hj]at aL;rw[<-aL];refine wW ?_;exact hR3 () _ (λh=>hg acB) (.le vV)
     ·have hif:¬(2147483648:Int)<=(q:Int):=acB;rw[if_neg hf]at aL;refine ah hif ?_;exact hR3 () _ (λh=>hf h.1) (.le (by rw[aL];exact vV))
    ·intro _ hng;rw[if_neg hng]at hrp;obtain⟨pl,hpl2⟩:∃pl,pl=k8 s n k:=⟨_,rfl⟩;rw[<-hpl2]at hrp;rw[<-hpl2];by_cases hbig:1099511627776<pl
     ·have hib:(1099511627776:Int)<(pl:Int):=acB;refine ah hib ?_;exact badr 2 (by rw[hrp,if_pos hbig])
     ·have hib:¬(1099511627776:Int)<(pl:Int):=acB;rw[if_neg hbig]at hrp;have hhex:=Sh.qz raw acB;refine cW hib d3 d4 @fj ?_;refine aj hhex rfl rfl ?_;refine wW ?_;refine aj hbc rfl rfl ?_;refine ah @jb ?_;rw[Fy,Yd];refine⟨⟨Ye,acB⟩,hR2 (k+1,l++[(Sh.b7 raw,pl,cr)]) _ (by simp only;omega) ⟨by simp only;omega,by simp only;unfold rowsP;rw[hrows];simp only[hrp]⟩ (.le (by rw[acD,acX];simp(disch:=first | omega | (simp only[Lx];omega))only[go_sem,simprocAttr,ady,Cp,adk,aef]))⟩
  ·obtain rfl:k=n:=acB;rw[hrows]at hb0;simp only at hb0;have m1:((s.length:Int)-20).toNat=s.length-20:=acB;have m2:((s.length:Int)-40).toNat=s.length-40:=acB;have m3:s.length-20-(s.length-40)=20:=acB;have hsum:=Sh.zj (s.take (s.length-20)) (by rw[acJ];omega);have hhx:=Sh.qz (cy s (s.length-40) 20) (by rw[kE acB];omega);refine ah m1 ?_;refine aj hsum rfl rfl ?_;by_cases hsh:Sh.dR (s.take (s.length-20))=s.drop (s.length-20)
   ·refine gP hsh m1 m2 m3 @fj ?_;refine aj hhx rfl rfl ?_;have htk:(cT s 256++[AV.str []]).take 257=cT s 256:=ae1 hfl;obtain⟨sm,hsm⟩:∃sm,sm=Sh.b7 (cy s (s.length-40) 20):=⟨_,rfl⟩;rw[<-hsm]at hb0;rw[<-hsm];simp(disch:=first | omega | (simp only[Lx];omega))only[go_sem,simprocAttr,htk,adx]
    have hb1:iE s=.ok (l,sm):=by rw[hb0,if_neg (λh=>h hsh)]
    refine hR.wk (h':=[]) (r':=.ab [eL s (l,sm),.int .i64 0]) (ar':=[.undef]) rfl (.bn 240196 (.oz 0 0 240019 [.aa 240019 0,.int .i64 0] (.ro 3 (a8 l)::(cT s 256++[.str sm])) vV (by rfl) ?_ ?_ (.le ?_))) ⟨rfl,by rw[hb1];rfl⟩
    ·simp(disch:=first | omega | (simp only[Lx];omega))only[go_sem,simprocAttr,ady,NT,Fy,jb]
    ·simp[noRefC,NU]
    ·simp(disch:=first | omega | (simp only[Lx];omega))only[go_sem,simprocAttr,eL]
   ·refine ah hsh ?_;exact bad 5 (by rw[hb0,if_pos hsh])
abbrev kf (L:List Rw):List Fi:=L.map λr=>(r.1,[])
theorem DK (L:List Rw):(kf L).length=L.length:=acY ..
theorem xS (L:List Rw) (i:Nat):((kf L).getD i bc).1=(L.getD i ga).1:=by
 rw[acC,acC,List.getElem?_map];cases L[i]?<;>rfl
theorem ab3 (s:Bs) (p:List Rw×Bs):aw Tryz.prog 37 [eL s p] (.int .i64 p.1.length):=by
 refine Cod.ab4 (λE R hN hR=>?_);refine ah @jb ?_;exact hR.ro ⟨rfl,rfl⟩
theorem acb (s:Bs) (p:List Rw×Bs):aw Tryz.prog 38 [eL s p] (.str p.2):=by
 refine Cod.acd (λE R hN hR=>?_);have h:(cT s 256++[AV.str p.2]).getD 257 .undef=.str p.2:=by rw[acC,List.getElem?_append_right (by rw[lL];omega),lL];rfl
 have hl:=lL s 256;refine ah h ?_;exact hR.ro ⟨rfl,rfl⟩
abbrev CD (f:Nat):Value:=.func (.func f) #[] #[]
theorem Yh (f:Nat) (hf:callable Tryz.prog f=true) (hsp:∀(r:Rw) (t:Bs),aw Tryz.prog f [l8 r,.str t] (.int .i64 (Lib.compareBytes r.1 t))) (L:List Rw) (t:Bs) (hs:eB (kf L)) (hl:L.length<=100000) :
    aw Tryz.prog 160 [.ro 3 (a8 L),.str t,.lit (CD f)] (js t (kf L)):=by
 refine Cod.Yi (λE R hN hR=>?_);have hp:=uI t (kf L);have hkl:=DK L;refine ah @jb ?_;refine aJ hN (λp:Nat×Nat=>⟨[(0,.ro 3 (a8 L)),(1,.str t),(2,.lit (CD f)),(8,.int .i64 L.length),(9,.int .i64 p.1),(10,.int .i64 p.2)],[]⟩) (λp=>p.1<=posF t (kf L)/\posF t (kf L)<=p.2/\p.2<=L.length) (λp=>p.2-p.1) (0,L.length) (.le vV) ⟨ac5 _,acB,acG _⟩ ?_;rintro⟨i,j⟩ R1 ⟨h1,h2,h3⟩ hR1;simp only at h1 h2 h3;by_cases hlt:i<j
 ·have hm:IntKind.i64.wrap (((i:Int)+(j:Int)).fdiv (2^min 1 64))=(((i+j)/2:Nat):Int):=by
   rw[show(2:Int)^min 1 64=2 from rfl,ac6 _ (by decide)];rw[gq ⟨acB,acB⟩];omega
  have hk:(i+j)/2<L.length:=acB;have hpi:=yC t hs (k:=(i+j)/2) acB;obtain⟨k,hk0⟩:∃k,k=(i+j)/2:=⟨_,rfl⟩;rw[<-hk0]at hm hk hpi;rw[xS]at hpi;have hik:i<=k:=acB;have hkj:k<j:=acB;clear hk0;refine cI @jb hm @qV ?_;refine s8 hf ?_;refine aj (hsp (L.getD k ga) t) rfl rfl ?_;generalize Lib.compareBytes (L.getD k ga).1 t=c at *
  by_cases hc:c<0
  ·refine ah hc ?_;exact hR1 (k+1,j) _ (by simp only;omega) ⟨by simp only;omega,by simp only;omega,h3⟩ (.le vV)
  ·refine ah hc ?_;exact hR1 (i,k) _ (by simp only;omega) ⟨h1,by simp only;omega,by simp only;omega⟩ (.le vV)
 ·obtain rfl:i=j:=acB;obtain rfl:i=posF t (kf L):=acB;by_cases hlt:posF t (kf L)<L.length
  ·have hi:((posF t (kf L):Nat):Int)<(L.length:Int):=acB;have hz:∀a:Bs,(Lib.compareBytes a t=0)↔a=t:=λa=>⟨mH,λe=>by rw[e];exact p4 t⟩;have hz:=hz (L.getD (posF t (kf L)) ga).1;refine cI @jb hi @qV ?_;refine lP @jb hi @qV ?_;refine CN hf ?_;refine iv (by simp(disch:=first | omega | (simp only[Lx];omega))only[go_sem,simprocAttr,l8]) (hsp (L.getD (posF t (kf L)) ga) t) vV rfl rfl ?_
   have hfo:∀b:Bool,decide (Lib.compareBytes (L.getD (posF t (kf L)) ga).1 t=0)=b->js t (kf L)=.ab [.int .i64 (posF t (kf L):Nat),.bool b]:=by
    intro b hb;unfold js;rw[xS,<-hb,decide_eq_decide.2 (⟨λh=>hz.2 h.2,λh=>⟨acB,hz.1 h⟩⟩:(posF t (kf L)<(kf L).length/\(L.getD (posF t (kf L)) ga).1=t)↔Lib.compareBytes (L.getD (posF t (kf L)) ga).1 t=0)]
   generalize Lib.compareBytes (L.getD (posF t (kf L)) ga).1 t=c at *
   by_cases hc:c=0
   ·refine ah hc ?_;refine cB hc ?_;exact hR.ro ⟨rfl,(hfo true (by simp[hc])).symm⟩
   ·refine ah hc ?_;refine cB hc ?_;exact hR.ro ⟨rfl,(hfo false (by simp[hc])).symm⟩
  ·refine aV @jb hlt ?_;refine gX @jb hlt ?_;refine CM ?_;refine ah hlt ?_;refine cB hlt ?_;exact hR.ro ⟨rfl,by unfold js;rw[decide_eq_false (λh:_/\_=>hlt (by have:=h.1;omega))]⟩
abbrev qJ (t:Bs) (L:List Rw):List Bs:=fA t (kf L)
abbrev bN:=Bs×Bs×(List Rw×Bs)
abbrev nn:bN:=([],[],[],[])
def uB (p:bN):AV:=.agg [.str p.1,eL p.2.1 p.2.2]
def fu (ps:List bN):List AV:=ps.map uB
theorem q7 (ps:List bN):(fu ps).length=ps.length:=by simp[fu]
theorem Vh {ps:List bN} {i:Nat} (h:i<ps.length):nth (fu ps) i=.agg [.str (ps.getD i nn).1,eL (ps.getD i nn).2.1 (ps.getD i nn).2.2]:=by
 simp[nth,fu,uB,acC,h]
theorem V4 {ps:List bN}:(fu ps).all aD=true:=by simp[fu,uB,aD,cellsOf,isCell]
theorem V3 {ps:List bN} {d t:Bs} {x:List Rw×Bs}:fu ps++[.agg [.str d,eL t x]]=fu (ps++[(d,t,x)]):=by simp[fu,uB]
theorem V5:fu []=[]:=(rfl)
theorem EJ (ps:List bN):aB (fu ps) 0 ps.length=fu ps:=by
 unfold aB;rw[adp,acF (by rw[q7];omega)]
def ia:Bs:=[111,98,106,101,99,116,115,47,112,97,99,107,47,112,97,99,107,45]
def rJ:Bs:=[46,105,100,120]
def pd:Bs:=[46,112,97,99,107]
def iV (p:Bs):Bs:=Lib.trimSuffix (p.drop 18) rJ
noncomputable def stepP (L:List Fi) (p:Bs):Except Int (Option bN):=
 if Lib.hasSuffix (p.drop 18) rJ=false\/cd (iV p)=false then .ok none
 else match iE ((getF p L).getD [])with
  | .error e=>.error e
  | .ok x=>match getF (ia++iV p++pd) L with
   | none=>.error 7
   | some d=>
    if(fi d).2≠0 then .error (fi d).2
    else if(fi d).1≠(x.1.length:Int)then .error 4
    else if Sh.b7 (d.drop (d.length-20))≠x.2 then .error 5
    else .ok (some (d,(getF p L).getD [],x))
theorem FB {s:Bs} {n:Nat} {e:Int}:∀{k:Nat},rowsP s n k=.error e->e≠0
 | 0,h=>by unfold rowsP at h;cases h
 | k+1,h=>by
  unfold rowsP at h
  cases h1:rowsP s n k with
  | error e'=>
   rw[h1]at h;cases h
   exact FB h1
  | ok l'=>
   rw[h1]at h
   cases h2:l9 s n k with
   | error e'=>
    rw[h2]at h;cases h;unfold l9 at h2;split at h2
    ·cases h2;decide
    ·split at h2
     ·cases h2;decide
     ·split at h2
      ·cases h2;decide
      ·cases h2
   | ok r=>rw[h2]at h;cases h
theorem Wj {s:Bs} {e:Int} (h:iE s=.error e):e≠0:=by
 unfold iE at h;simp only at h;split at h
 ·cases h;decide
 ·split at h
  ·cases h;decide
  ·split at h
   ·cases h;decide
   ·split at h
    ·cases h;decide
    ·split at h
     ·cases h;decide
     ·split at h
      ·cases h;decide
      ·split at h
       ·rename_i e' h1;cases h;exact FB h1
       ·split at h
        ·cases h;decide
        ·cases h
noncomputable def packsP (L:List Fi) (U:List Bs):Nat->Except Int (List bN)
 | 0=>.ok []
 | k+1=>match packsP L U k with
  | .error e=>.error e
  | .ok ps=>match stepP L (U.getD k [])with
   | .error e=>.error e
   | .ok none=>.ok ps
   | .ok (some p)=>.ok (ps++[p])
theorem EK {L:List Fi} {U:List Bs} {e:Int}:∀{m k:Nat},k<=m->packsP L U k=.error e->packsP L U m=.error e
 | 0,k,h,h1=>by
  obtain rfl:k=0:=acB
  exact h1
 | m+1,k,h,h1=>by
  by_cases hk:k=m+1
  ·subst hk;exact h1
  ·unfold packsP;rw[EK (by omega:k<=m) h1]
theorem EL {L:List Fi} {U:List Bs}:∀{k:Nat} {l:List bN},packsP L U k=.ok l->l.length<=k
 | 0,l,h=>by
  unfold packsP at h
  cases h;exact acG _
 | k+1,l,h=>by
  unfold packsP at h
  cases h1:packsP L U k with
  | error e=>rw[h1]at h;cases h
  | ok l'=>
   have:=EL h1;rw[h1]at h
   cases h2:stepP L (U.getD k [])with
   | error e=>rw[h2]at h;cases h
   | ok r=>
    rw[h2]at h
    cases r with
    | none=>cases h;omega
    | some r=>
     cases h;rw[acD,acX];omega
noncomputable def ux (L:List Fi):Except Int (List bN):=packsP L (fA ia L) (fA ia L).length
abbrev gb (L:List Fi) (n:Nat) (ps:List bN):AV:=.ao (.agg [fL L n,.ro 2 (fu ps)])
def uy (L:List Fi) (n:Nat):Except Int (List bN)->AV
 | .error e=>.ab [.lit (.pointer none),.int .i64 e]
 | .ok ps=>.ab [gb L n ps,.int .i64 0]
theorem L3 (s p:Bs) (hs:s.length<=1000000):aw Tryz.prog 32 [.str s,.str p] (.ab [.str (Lib.trimSuffix s p),.bool (Lib.hasSuffix s p)]):=
 lj rfl rfl (λw=>Tryz.strings_CutSuffix ⟨s.toArray⟩ ⟨p.toArray⟩ w (by show s.toArray.size<=_;simp;omega))
theorem CQ {p d:Bs} {L:List Fi} {B:Nat} (h:∀f∈L,f.2.length<=B) (hg:getF p L=some d):d.length<=B:=h _ (get_mem hg)
set_option maxHeartbeats 4000000 in
theorem VM (L:List Fi) (n:Nat) (hs:eB L) (hl:L.length<=100000) (hc:∀f∈L,f.1.length<=200) (hd:∀f∈L,f.2.length<=100000) :
    aw Tryz.prog 11 [fL L n] (uy L n (ux L)):=by
 refine Cod.VN (λE R hN hR=>?_);refine wW ?_;refine aj (GS L n ia hs hl (by decide) (λf hf=>by have:=hc f hf;omega)) rfl rfl ?_;have hul:=GR ia L
 have hum:∀p∈fA ia L,p.length<=200/\18<=p.length:=λp hp=>by
  obtain⟨h1,f,hf,h2⟩:=zt hp;exact⟨by rw[<-h2];exact hc f hf,Ay h1⟩
 unfold ux at hR;generalize fA ia L=U at *
 have bad:∀{h} (e:Int),packsP L U U.length=.error e->R h (.ab [.lit (.pointer none),.int .i64 e]) [.undef]:=λe he=>hR.ro ⟨rfl,by rw[he];rfl⟩;refine ah @bJ ?_
 refine aJ hN (λp:Nat×List bN=>⟨[(0,fL L n),(4,.aa 246017 0),(19,.ro 1 (aR U)),(20,.int .i64 U.length),(21,.int .i64 p.1)],[(246017,.var [fL L n,.sl 246096 0 p.2.length]),(246096,.arr 2 (fu p.2))]⟩)
  (λp=>p.1<=U.length/\packsP L U p.1=.ok p.2) (λp=>U.length-p.1) (0,[]) (.iW 246017 1 246096 2 [fL L n,.an] rfl rfl rfl (.le (eY @V5))) ⟨acB,rfl⟩ ?_
 rintro⟨k,ps⟩ R1 ⟨hk,hps⟩ hR1;simp only at hk hps;have aL:=EL hps;by_cases hlt:k<U.length
 ·obtain⟨h1,h2⟩:=hum _ (dL [] hlt)
  have hst:∀r,stepP L (U.getD k [])=r->packsP L U (k+1)=match r with
   | .error e=>.error e
   | .ok none=>.ok ps
   | .ok (some p)=>.ok (ps++[p]):=λr hr=>by rw[packsP,hps];simp only[hr]
  obtain⟨p,hp⟩:∃p,p=U.getD k []:=⟨_,rfl⟩;rw[<-hp]at h1 h2 hst;have hi:(18:Int)<=(p.length:Int):=acB;have badk:∀{h} (e:Int),stepP L p=.error e->R h (.ab [.lit (.pointer none),.int .i64 e]) [.undef]:=λe he=>bad e (EK (by omega:k+1<=U.length) (hst _ he))
  have skip:stepP L p=.ok none->∀st',Wk st' ⟨[(0,fL L n),(4,.aa 246017 0),(19,.ro 1 (aR U)),(20,.int .i64 U.length),(21,.int .i64 ((k+1:Nat):Int))],[(246017,.var [fL L n,.sl 246096 0 ps.length]),(246096,.arr 2 (fu ps))]⟩->R1.ap st':=λhno st' hw=>
   hR1 (k+1,ps) _ (by simp only;omega) ⟨by simp only;omega,hst _ hno⟩ hw
  have hcs:=L3 (p.drop 18) rJ (by rw[acK];omega)
  have hnl:(iV p).length<=200:=by
   unfold iV Lib.trimSuffix;split
   ·rw[acJ,acK];omega
   ·rw[acK];omega
  have hsid:=o8 (iV p) acB;simp(disch:=first | omega | (simp only[Lx];omega))only[go_sem,simprocAttr,bJ,hV,<-hp,hi]
  refine aj hcs rfl rfl ?_;rw[show Lib.trimSuffix (p.drop 18) rJ=iV p from rfl]
  cases hsf:Lib.hasSuffix (p.drop 18) rJ with
  | false=>
   refine wW ?_;refine gG ?_
   exact skip (by unfold stepP;rw[if_pos (.inl hsf)]) _ (.le vV)
  | true=>
   refine wW ?_;refine gG ?_;refine jt (iv vV hsid vV rfl rfl ?_)
   cases hid:cd (iV p)with
   | false=>
    refine wW ?_;refine gG ?_
    exact skip (by unfold stepP;rw[if_pos (.inr hid)]) _ (.le vV)
   | true=>
    refine wW ?_;refine gG ?_;have hg1:=y5 L n p hs hl
    have hg2:aw Tryz.prog 34 [fL L n,.str p] (.ab [.str ((getF p L).getD []),.int .i64 (if(getF p L).isSome then 0 else 7)]):=by
     cases hg:getF p L<;>(rw[hg]at hg1;exact hg1)
    have htl:((getF p L).getD []).length<=100000:=by
     cases hg:getF p L with
     | none=>simp
     | some d=>exact CQ hd hg
    have hsp:stepP L p=(match iE ((getF p L).getD [])with
        | .error e=>.error e
        | .ok x=>match getF (ia++iV p++pd) L with
         | none=>.error 7
         | some d=>
          if(fi d).2≠0 then .error (fi d).2
          else if(fi d).1≠(x.1.length:Int)then .error 4
          else if Sh.b7 (d.drop (d.length-20))≠x.2 then .error 5
          else .ok (some (d,(getF p L).getD [],x))):=by
     unfold stepP;rw[if_neg (by rw[hsf,hid];simp)]
    refine aj hg2 rfl rfl ?_;obtain⟨t,ht⟩:∃t,t=(getF p L).getD []:=⟨_,rfl⟩;rw[<-ht]at htl hsp;rw[<-ht];have hpa:=ab9 t htl;refine wW ?_
    cases hpp:iE t with
    | error e=>
     rw[hpp]at hpa hsp;refine aj hpa rfl rfl ?_;have he:¬e=0:=Wj hpp;simp(disch:=first | omega | (simp only[Lx];omega))only[go_sem,simprocAttr,parseA,he]
     exact badk e hsp
    | ok x=>
     rw[hpp]at hpa hsp;simp only at hsp;refine aj hpa rfl rfl ?_;have hg3:=y5 L n (ia++iV p++pd) hs hl;have hbl:(ia++iV p++pd).length<=1000:=by rw[acD,acD];have:ia.length=18:=rfl;have:pd.length=5:=rfl;omega
     obtain⟨q,hq⟩:∃q,q=ia++iV p++pd:=⟨_,rfl⟩;have hq2:111::98::106::101::99::116::115::47::112::97::99::107::47::112::97::99::107::45::(iV p++[46,112,97,99,107])=q:=by rw[hq];rfl
     rw[<-hq]at hg3 hsp hbl;simp(disch:=first | omega | (simp only[Lx];omega))only[go_sem,simprocAttr,parseA,hq2]
     cases hgd:getF q L with
     | none=>
      rw[hgd]at hg3 hsp;refine aj hg3 rfl rfl ?_;refine wW ?_
      exact badk 7 hsp
     | some d=>
      rw[hgd]at hg3 hsp;simp only at hsp;have hdl:=CQ hd hgd;have hcn:=abY d hdl;have h32:=@Lz d;have hln:=ab3 t x;have hsm:=acb t x;refine aj hg3 rfl rfl ?_;refine wW ?_;refine aj hcn rfl rfl ?_;obtain⟨m,hm⟩:∃m,m=(fi d).1:=⟨_,rfl⟩;obtain⟨f,hf⟩:∃f,f=(fi d).2:=⟨_,rfl⟩;rw[<-hf,<-hm]at hsp;rw[<-hf]at h32;rw[<-hf,<-hm];refine wW ?_;by_cases h0:f=0;rotate_left
      ·rw[if_pos h0]at hsp;refine ah h0 ?_;exact badk f hsp
      ·rw[if_neg (λh=>h h0)]at hsp;have h32:=h32 h0;subst h0;refine wW ?_;refine aj hln rfl rfl ?_;by_cases h3:m=(x.1.length:Int);rotate_left
       ·rw[if_pos h3]at hsp;refine ah h3 ?_;exact badk 4 hsp
       ·rw[if_neg (λh=>h h3)]at hsp;have e20:((d.length:Int)-20).toNat=d.length-20:=acB;have hhx:=Sh.qz (d.drop (d.length-20)) (by rw[acK];omega);refine aV h3 e20 ?_;refine aj hhx rfl rfl ?_;refine wW ?_;refine aj hsm rfl rfl ?_;by_cases h4:Sh.b7 (d.drop (d.length-20))=x.2;rotate_left
        ·rw[if_pos h4]at hsp;refine ah h4 ?_;exact badk 5 hsp
        ·rw[if_neg (λh=>h h4)]at hsp;refine aV h4 @q7 ?_;rw[EJ,V3];refine⟨⟨V4,acB⟩,hR1 (k+1,ps++[(d,t,x)]) _ (by simp only;omega) ⟨by simp only;omega,hst _ hsp⟩ (.le (by rw[acD,acX];exact vV))⟩
 ·obtain rfl:k=U.length:=acB;have hop:uy L n (packsP L U U.length)=.ab [gb L n ps,.int .i64 0]:=by rw[hps];rfl
  refine ah @bJ ?_;refine hR.wk (h':=[]) (r':=.ab [gb L n ps,.int .i64 0]) (ar':=[.undef]) rfl (.bn 246096 (.oz 0 0 246017 [.aa 246017 0,.int .i64 0] [fL L n,.ro 2 (fu ps)] vV (by rfl) ?_ ?_ (.le ?_))) ⟨rfl,hop.symm⟩;exact lv @EJ @q7;rfl
  ·simp(disch:=first | omega | (simp only[Lx];omega))only[go_sem,simprocAttr,gb]
end Go.Proofs.YtgghhaahnpbnmaaGreatDoor.Ls
