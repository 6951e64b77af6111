/- The proof, part 33 of 43. -/
import Derived.Test.YtoalcafkffmiiaaGreatDoorOdbShadowsZF
import Derived.Lib.SplitLaws
set_option linter.all false
namespace Go.Proofs.YtoalcafkffmiiaaGreatDoor.Ls
open Eng
set_option maxRecDepth 10000
theorem tG:∀a b:Bs,Op.bytesLess a b=decide (Lib.compareBytes a b = -1)
 | [],[]=>rfl
 | [],_::_=>rfl
 | _::_,[]=>rfl
 | x::r,y::t=>by
  have ih:=tG r t;rw[Op.bytesLess,Lib.compareBytes,ih];by_cases h1:x<y
  ·simp[h1]
  ·by_cases h2:y<x
   ·have:¬x=y:=λe=>by subst e;exact h1 h2
    simp[h1,h2,this]
   ·have:x=y:=by
     simp only[aBL]at h1 h2;exact UInt8.toNat.inj aA4
    simp[this]
def putP (s:Bs):List Bs->List Bs
 | []=>[s]
 | x::r=>if x=s then x::r else if Op.bytesLess s x=true then s::x::r else x::putP s r
def fu (l:List Bs):Prop:=l.Pairwise (λa b=>Lib.compareBytes a b<0)
theorem ud (s y:Bs):∀l:List Bs,y∈putP s l↔y=s\/y∈l
 | []=>by simp[putP]
 | x::r=>by
  have ih:=ud s y r;unfold putP;split
  ·rename_i h;subst h;simp
  ·split
   ·simp
   ·rw[aBo,ih,aBo];constructor
    ·rintro(h | h | h)<;>simp[h]
    ·rintro(h | h | h)<;>simp[h]
theorem Bv (s:Bs):∀{l:List Bs},fu l->fu (putP s l)
 | [],_=>aCl _ _
 | x::r,h=>by
  have h':=aBw.1 h;unfold putP;split
  ·exact h
  ·rename_i hne;split
   ·rename_i hl;rw[tG,decide_eq_true_eq]at hl;refine aBw.2 ⟨λy hy=>?_,h⟩;rcases aBo.1 hy with rfl | hy
    ·omega
    ·have:=h'.1 y hy;exact o0 aA4 this
   ·rename_i hl;rw[tG,decide_eq_true_eq]at hl;refine aBw.2 ⟨λy hy=>?_,Bv s h'.2⟩;rcases(ud s y r).1 hy with rfl | hy
    ·have h1:=wZ y x;have h2:=fV y x;have h3:Lib.compareBytes y x≠0:=λh=>hne (j9 h).symm;omega
    ·exact h'.1 y hy
def u7 (t:Bs) (fs:List Fi):List Bs:=((fs.filter (λf=>a7 t f.1)).map (·.1)).foldl (λo p=>putP p o) []
theorem yu (y:Bs):∀(l acc:List Bs),y∈l.foldl (λo p=>putP p o) acc↔y∈acc\/y∈l
 | [],acc=>by simp
 | p::r,acc=>by
  rw[aCZ,yu y r,ud,aBo];constructor
  ·rintro((h | h) | h)<;>simp[h]
  ·rintro(h | h | h)<;>simp[h]
theorem yv:∀(l:List Bs) {acc:List Bs},fu acc->fu (l.foldl (λo p=>putP p o) acc)
 | [],_,h=>h
 | p::r,_,h=>yv r (Bv p h)
theorem uW:∀{a b:List Bs},fu a->fu b->(∀x,x∈a↔x∈b)->a=b
 | [],[],_,_,_=>rfl
 | [],y::b,_,_,h=>by have:=(h y).2 (aBn ..);simp at this
 | x::a,[],_,_,h=>by have:=(h x).1 (aBn ..);simp at this
 | x::a,y::b,ha,hb,h=>by
  have ha':=aBw.1 ha;have hb':=aBw.1 hb
  have hxy:x=y:=by
   rcases aBo.1 ((h x).1 (aBn ..))with e | h1
   ·exact e
   ·rcases aBo.1 ((h y).2 (aBn ..))with e | h2
    ·exact e.symm
    ·have e1:=hb'.1 x h1;have e2:=ha'.1 y h2;have:=fV x y;omega
  subst hxy
  have hno:∀{l:List Bs},(∀z∈l,Lib.compareBytes x z<0)->x∉l:=λh1 h2=>by
   have:=h1 x h2;rw[k8]at this;omega
  rw[uW ha'.2 hb'.2 (λz=>by
   have hz:=h z;rw[aBo,aBo]at hz;constructor
   ·intro hm;rcases hz.1 (.inr hm)with e | h1
    ·exact absurd (e▸hm) (hno ha'.1)
    ·exact h1
   ·intro hm;rcases hz.2 (.inr hm)with e | h1
    ·exact absurd (e▸hm) (hno hb'.1)
    ·exact h1)]
theorem rY (a b:UInt8) (t s:Bs):a7 (a::t) (b::s)=(decide (a=b)&&a7 t s):=by
 unfold a7;by_cases h:a=b
 ·subst h;simp
 ·have h':¬b=a:=λe=>h e.symm;simp[h,h']
theorem Ho (s:Bs):a7 [] s=true:=by simp[a7]
theorem wc (a:UInt8) (t:Bs):a7 (a::t) []=false:=by simp[a7]
theorem rZ:∀{t s:Bs},a7 t s=true->Lib.compareBytes t s<=0
 | [],[],_=>by simp[Lib.compareBytes]
 | [],_::_,_=>by simp[Lib.compareBytes]
 | a::t,[],h=>by rw[wc]at h;cases h
 | a::t,b::s,h=>by
  rw[rY,aBd,decide_eq_true_eq]at h;obtain⟨rfl,h⟩:=h;have:=rZ h;simpa[Lib.compareBytes,aBL]using this
theorem rX:∀{t y z:Bs},Lib.compareBytes t y<=0->Lib.compareBytes y z<=0->a7 t z=true->a7 t y=true
 | [],y,_,_,_,_=>Ho y
 | a::t,y,[],_,_,h=>by rw[wc]at h;cases h
 | a::t,[],z::zs,h,_,_=>by simp[Lib.compareBytes]at h
 | a::t,c::y,b::z,h1,h2,h3=>by
  rw[rY,aBd,decide_eq_true_eq]at h3;obtain⟨rfl,h3⟩:=h3;simp only[Lib.compareBytes,aBL]at h1 h2;by_cases hc:a.toNat=c.toNat
  ·have hc:=UInt8.toNat.inj hc;subst hc;simp only[aCP,if_false]at h1 h2;rw[rY,decide_eq_true rfl,aDF];exact rX h1 h2 h3
  ·exfalso
   split at h1
   ·rename_i h;rw[if_neg aA4,if_pos h]at h2;omega
   ·rw[if_pos aA4]at h1;omega
theorem D5 (t:Bs):∀{L:List Fi},dG L->(∀f∈L,Lib.compareBytes t f.1<=0)->L.takeWhile (λf=>a7 t f.1)=L.filter (λf=>a7 t f.1)
 | [],_,_=>rfl
 | x::r,hs,hg=>by
  have hs':=aBw.1 hs;rw[aCA];by_cases h:a7 t x.1=true
  ·rw[if_pos h,aBT (p:=λf:Fi=>a7 t f.1) h,D5 t hs'.2 (λf hf=>hg f (aBu _ hf))]
  ·rw[if_neg h,aBx (p:=λf:Fi=>a7 t f.1) h,eq_comm,aC3];intro y hy hb;have h1:=hs'.1 y hy;exact h (rX (hg x (aBn ..)) (by unfold cg at h1;omega) hb)
theorem u9 (t:Bs):∀{L:List Fi},dG L->bL t L=(L.filter (λf=>a7 t f.1)).map (·.1)
 | [],_=>rfl
 | x::r,hs=>by
  have hs':=aBw.1 hs;by_cases h:Lib.compareBytes x.1 t<0
  ·have ih:=u9 t hs'.2
   have hno:¬a7 t x.1=true:=λhb=>by
    have h1:=rZ hb;have:=fV x.1 t;omega
   rw[aBx (p:=λf:Fi=>a7 t f.1) hno,<-ih];unfold bL;rw[show posF t (x::r)=posF t r+1 by simp only[posF];rw[if_pos h],aBS]
  ·have hge:∀f∈x::r,Lib.compareBytes t f.1<=0:=λf hf=>by
    have h0:Lib.compareBytes t x.1<=0:=by have:=fV x.1 t;omega
    rcases aBo.1 hf with rfl | hf
    ·exact h0
    ·have h1:=hs'.1 f hf;exact j8 _ _ _ h0 (by unfold cg at h1;omega)
   unfold bL;rw[show posF t (x::r)=0 by simp only[posF];rw[if_neg h],aBF,D5 t hs hge]
theorem Ed {L fs:List Fi} (hs:dG L) (hp:L.Perm fs) (t:Bs):u7 t fs=bL t L:=by
 rw[u9 t hs];refine uW (yv _ .nil) ?_ (λx=>?_)
 ·exact List.pairwise_map.2 ((List.Pairwise.filter _ hs).imp (λh=>h))
 ·unfold u7;rw[yu];simp only[List.not_mem_nil,false_or,aBH,aBM];constructor
  ·rintro⟨f,⟨h1,h2⟩,rfl⟩;exact⟨f,⟨hp.mem_iff.2 h1,h2⟩,rfl⟩
  ·rintro⟨f,⟨h1,h2⟩,rfl⟩;exact⟨f,⟨hp.mem_iff.1 h1,h2⟩,rfl⟩
theorem yW {c:UInt8} (h:eF c=true):c≠47:=λe=>by subst e;exact absurd h (by decide)
theorem apV {a b:UInt8} {m:Bs} (ha:a≠47) (hb:b≠47):Lib.replace (a::b::47::m) [47] [] 1=a::b::m:=by
 have hi:Lib.index (a::b::47::m) [47]=((2:Nat):Int):=by
  rw[Lib.index_one];simp[Lib.indexByte,ha,hb]
 have hc:Lib.count (a::b::47::m) [47]=m.count 47+1:=by
  rw[Lib.count_one];simp[List.count_cons,ha,hb]
 unfold Lib.replace;rw[if_neg (by decide)]
 have hn:Lib.replaceNum (a::b::47::m) [47] 1=1:=by
  unfold Lib.replaceNum;rw[hc,if_neg aA4];rfl
 rw[hn,Lib.replaceK_hit _ _ _ _ 2 hi];rfl
def cE (p:Bs) (fs:List Fi):Option Bs:=((fs.filter (λf=>decide (f.1=p))).map (·.2)).head?
theorem pI {L fs:List Fi} (hs:dG L) (hp:L.Perm fs) (p:Bs):cE p fs=getF p L:=by
 unfold cE;rw[aeY hp hs p];cases getF p L<;>rfl
theorem XR (s:Bs) (h:Ob.fO s≠0):Ob.bD (Ob.fO s)≠[]:=by
 unfold Ob.fO at h |-
 (repeat' split)<;>first | decide | skip
 simp_all
theorem K8 {s:Bs} (h:(Ob.eW s).2.2=0):Ob.eS (Ob.eW s).1 (Ob.eW s).2.1=0:=by
 unfold Ob.eW at h |-;split at h
 ·simp at h
 ·split at h
  ·simp at h
  ·split at h
   ·simp at h
   ·split at h
    ·simp at h
    ·split at h
     ·simp at h
     ·rename_i h1 h2 h3 h4 h5;rw[if_neg h1,if_neg h2,if_neg h3,if_neg h4,if_neg h5];simp only;unfold Ob.eS;rw[if_neg (XR _ h2),if_neg aA4]
def nJ (id:Bs) (x:Int×Bs×Int):Int×Bs×Int:=if x.2.2≠0 then(0,[],x.2.2)else if Sh.bW (Sh.ep (Ob.gk x.1 x.2.1))=id then(x.1,x.2.1,0)else(0,[],5)
theorem Ee {s:Bs} (h:(cQ s).2.2=0):Ob.eS (cQ s).1 (cQ s).2.1=0:=by
 unfold cQ at h |-;split at h
 ·rename_i h1;exact absurd (Int.natCast_eq_zero.1 h) h1
 ·split at h
  ·simp at h
  ·rename_i h1 h2;rw[if_neg h1,if_neg h2];exact K8 h
theorem aeG (id s:Bs):nJ id (cQ s)=lz id (cQ s):=by
 unfold nJ lz;by_cases h:(cQ s).2.2=0
 ·have h':¬(cQ s).2.2≠0:=λh'=>h' h;rw[if_neg h',if_neg h'];unfold nv;rw[if_pos (Ee h)]
 ·rw[if_pos h,if_pos h]
open Eng Ob Pk
set_option maxRecDepth 10000
theorem aA2 (s t:Bs) (hs:s.length<=9223372036854775807) (ht:t.length<=9223372036854775807):aJ Tryz.prog 57 [.str s,.str t] (.bool (a7 t s)):=by
 refine Cod.ann (λE R hN hR=>?_);by_cases h:t.length<=s.length
 ·have hi:(t.length:Int)<=(s.length:Int):=aA4;refine au hi ?_;refine bq hi ?_;refine hR.ro ⟨rfl,?_⟩;simp[a7,h]
 ·have hi:¬(t.length:Int)<=(s.length:Int):=aA4;refine au hi ?_;refine bq hi ?_;exact hR.ro ⟨rfl,by simp[a7,h]⟩
abbrev aeM (o:Option Bs):AV:=.ai [.str (o.getD []),.bool o.isSome]
theorem anC (fs:List Fi) (p:Bs) (hl:fs.length<=100000):aJ Tryz.prog 51 [.ro 2 (bm fs),.str p] (aeM (cE p fs)):=by
 refine Cod.anD (λE R hN hR=>?_);refine au @bR ?_;refine aZ hN (λk:Nat=>⟨[(1,.str p),(8,.ro 2 (bm fs)),(9,.int .i64 fs.length),(10,.int .i64 k)],[]⟩) (λk=>k<=fs.length/\(fs.take k).filter (λf=>decide (f.1=p))=[]) (λk=>fs.length-k) 0 (.le vV) ⟨aBB _,rfl⟩ ?_;rintro k R1 ⟨hk,hno⟩ hR1;by_cases hlt:k<fs.length
 ·have hsn:=dE aX fs hlt
  have hsp:fs=fs.take k++fs.getD k aX::fs.drop (k+1):=by
   have hdr:fs.drop k=fs.getD k aX::fs.drop (k+1):=by
    rw[aA5,List.getElem?_eq_getElem hlt];exact aB0 hlt
   rw[<-hdr,aDz]
  have yes:(fs.getD k aX).1=p->cE p fs=some (fs.getD k aX).2:=λh=>by
   unfold cE;rw[hsp,aB7,hno,aBQ,<-hsp,aBT (by simpa using h)];rfl
  refine bl @bR @fS ?_;refine nu (λhe=>?_) (λhe=>?_)
  ·rw[yes he]at hR;refine wW ?_;exact hR.ro ⟨rfl,rfl⟩
  ·refine wW ?_;exact hR1 (k+1) _ aA4 ⟨aA4,by rw[hsn,aB7,hno,aBx (by simpa using he)];rfl⟩ (.le vV)
 ·obtain rfl:k=fs.length:=aA4;rw[aA7 (aA9 _)]at hno;have:cE p fs=none:=by unfold cE;rw[hno];rfl
  rw[this]at hR;refine wW ?_;exact hR.ro ⟨rfl,rfl⟩
theorem PL (c:UInt8):eF c=(decide (48<=c.toNat/\c.toNat<=57)||decide (97<=c.toNat/\c.toNat<=102)):=by
 unfold eF jD;by_cases h1:48<=c.toNat/\c.toNat<=57
 ·rw[if_pos h1,decide_eq_true h1,decide_eq_true aA4];rfl
 ·rw[if_neg h1,decide_eq_false h1];by_cases h2:97<=c.toNat/\c.toNat<=102
  ·rw[if_pos h2,decide_eq_true h2,decide_eq_true aA4];rfl
  ·rw[if_neg h2,decide_eq_false h2,decide_eq_false aA4];rfl
set_option maxHeartbeats 1000000 in
theorem afW (s:Bs) (hs:s.length<=9223372036854775806):aJ Tryz.prog 60 [.str s] (.bool (gV s)):=by
 refine Cod.afX (λE R hN hR=>?_);refine wW ?_;refine aZ hN (λk:Nat=>⟨[(0,.str s),(3,.int .i64 k)],[]⟩) (λk=>k<=s.length/\(s.take k).all eF=true) (λk=>s.length-k) 0 (.le vV) ⟨aBB _,rfl⟩ ?_;rintro k R1 ⟨hk,hall⟩ hR1;by_cases hlt:k<s.length
 ·have hsn:=dE 0 s hlt;have hm:=fy 0 hlt;have hi:=PL (s.getD k 0)
  have yes:eF (s.getD k 0)=true->∀st',Wk st' ⟨[(0,.str s),(3,.int .i64 ((k+1:Nat):Int))],[]⟩->R1.ap st':=λh st' hw=>
   hR1 (k+1) _ aA4 ⟨aA4,by rw[hsn,aCe,hall,aCb,h];rfl⟩ hw
  have bad:∀{h},eF (s.getD k 0)=false->R h (.bool false) [.undef]:=λh=>hR.ro ⟨rfl,by rw[gV,tQ hm h];rfl⟩;have hc:=(s.getD k 0).toNat_lt
  have good:(48<=(s.getD k 0).toNat/\(s.getD k 0).toNat<=57)\/(97<=(s.getD k 0).toNat/\(s.getD k 0).toNat<=102)->eF (s.getD k 0)=true:=λh=>by
   rw[hi,aCJ,decide_eq_true_eq,decide_eq_true_eq];exact h
  have evil:¬((48<=(s.getD k 0).toNat/\(s.getD k 0).toNat<=57)\/(97<=(s.getD k 0).toNat/\(s.getD k 0).toNat<=102))->eF (s.getD k 0)=false:=λh=>by
   rw[hi,aDe,decide_eq_false_iff_not,decide_eq_false_iff_not];exact⟨λh1=>h (.inl h1),λh1=>h (.inr h1)⟩
  clear hi;by_cases h1:48<=(s.getD k 0).toNat
  ·by_cases h2:(s.getD k 0).toNat<=57
   ·refine bl h1 h2 ?_;refine dI h1 h2 ?_;exact yes (good aA4) _ (.le vV)
   ·by_cases h3:97<=(s.getD k 0).toNat
    ·by_cases h4:(s.getD k 0).toNat<=102
     ·refine dq h1 h2 h3 h4 ?_;refine lj h1 h2 h3 h4 ?_;exact yes (good aA4) _ (.le vV)
     ·refine dq h1 h2 h3 h4 ?_;refine lj h1 h2 h3 h4 ?_;exact bad (evil aA4)
    ·refine ct h1 h2 h3 ?_;refine fx h1 h2 h3 ?_;exact bad (evil aA4)
  ·refine au h1 ?_;refine bq h1 ?_;exact bad (evil aA4)
 ·obtain rfl:k=s.length:=aA4;rw[aA7 (aA9 _)]at hall;by_cases h2:s.length%2=0
  ·have hm:(s.length:Int)%2=0:=aA4;refine au hm ?_;exact hR.ro ⟨rfl,by rw[gV,hall,decide_eq_true h2];rfl⟩
  ·have hm:¬(s.length:Int)%2=0:=aA4;refine au hm ?_;exact hR.ro ⟨rfl,by rw[gV,decide_eq_false h2];simp⟩
theorem anZ (s:Bs) (hs:s.length<=9223372036854775806):aJ Tryz.prog 50 [.str s] (.bool (cm s)):=by
 refine Cod.an0 (λE R hN hR=>?_);unfold cm at hR;by_cases h40:s.length=40
 ·have hi:(s.length:Int)=40:=aA4;rw[decide_eq_true h40,aDh]at hR;refine au hi ?_;refine fN (iM vV (afW s hs) vV rfl rfl ?_);refine wW ?_;exact hR.ro ⟨rfl,rfl⟩
 ·have hi:¬(s.length:Int)=40:=aA4;rw[decide_eq_false h40,aDE]at hR;refine au hi ?_;refine bq hi ?_;exact hR.ro ⟨rfl,rfl⟩
theorem Cn (s:Bs) (h2:2<=s.length) (hs:s.length<=1000000):aJ Tryz.prog 14 [.str s] (.str (bK s)):=by
 refine Cod.an4 (λE R hN hR=>?_);have hi:(2:Int)<=(s.length:Int):=aA4;refine au hi ?_;exact hR.ro ⟨rfl,by rw[bK,dW];simp⟩
theorem aoy (s:Bs) (hs:s.length<=1000000):aJ Tryz.prog 52 [.str s] (fW (cQ s)):=by
 refine Cod.aoz (λE R hN hR=>?_);have h1:=ani s 0 65536 hs (aBB _) (aA9 _);rw[aBF]at h1;have hz:=vA s 65536;unfold cQ at hR;generalize dF s 65536=Z at *
 obtain⟨t,n,e⟩:=Z;simp only at hR hz;refine wW ?_;refine aw h1 rfl rfl ?_;by_cases he:e=0
 ·subst he;by_cases hn:n=s.length
  ·subst hn;rw[if_neg (by simp),if_neg (by simp)]at hR;have hdc:=apF t aA4;generalize eW t=x at *
   obtain⟨k,d,e⟩:=x;unfold fW eI at hdc hR;refine wW ?_;refine aw hdc rfl rfl ?_;refine wW ?_;exact hR.ro ⟨rfl,rfl⟩
  ·rw[if_neg (by simp),if_pos hn]at hR;have hi:¬(n:Int)=(s.length:Int):=aA4;refine au hi ?_;exact hR.ro ⟨rfl,rfl⟩
 ·rw[if_pos he]at hR;have hi:¬(e:Int)=0:=aA4;refine au hi ?_;exact hR.ro ⟨rfl,rfl⟩
def apK (id:Bs):Option Bs->Int×Bs×Int
 | none=>(0,[],7)
 | some d=>nJ id (cQ d)
def qh (id:Bs) (fs:List Fi):Int×Bs×Int:=if cm id=true then apK id (cE (bK id) fs)else(0,[],4)
theorem look_eq {L fs:List Fi} (hs:dG L) (hp:L.Perm fs) (id:Bs):qh id fs=iX id L:=by
 unfold qh iX;rw[pI hs hp];by_cases h:cm id=true
 ·rw[if_pos h,if_pos h]
  cases getF (bK id) L with
  | none=>rfl
  | some d=>exact aeG id d
 ·rw[if_neg h,if_neg h]
theorem Ny {p d:Bs} {fs:List Fi} (h:cE p fs=some d):∃f∈fs,f.2=d:=by
 unfold cE at h;have h1:=List.mem_of_head? h;obtain⟨f,hf,rfl⟩:=aBH.1 h1;exact⟨f,(aBM.1 hf).1,rfl⟩
set_option maxHeartbeats 1000000 in
theorem aom (fs:List Fi) (id:Bs) (hl:fs.length<=100000) (hd:∀f∈fs,f.2.length<=1000000) (hi:id.length<=140737488351232):aJ Tryz.prog 15 [.ro 2 (bm fs),.str id] (fW (qh id fs)):=by
 refine Cod.aon (λE R hN hR=>?_);unfold qh at hR;have h1:=anZ id aA4;refine wW ?_;by_cases hid:cm id=true;rotate_left
 ·rw[if_neg hid]at hR;have hid:cm id=false:=by simpa using hid
  rw[hid]at h1;refine aw h1 rfl rfl ?_;refine wW ?_;exact hR.ro ⟨rfl,rfl⟩
 rw[if_pos hid]at hR;rw[hid]at h1;have h40:=(nK hid).1;refine aw h1 rfl rfl ?_;refine wW ?_;refine aw (Cn id aA4 aA4) rfl rfl ?_;refine wW ?_;have h2:=anC fs (bK id) hl;refine aw h2 rfl rfl ?_
 cases hg:cE (bK id) fs with
 | none=>
  rw[hg]at hR;simp(disch:=first | omega | (simp only[Lx];omega))only[go_sem,simprocAttr,aDa,aBq]
  exact hR.ro ⟨rfl,rfl⟩
 | some d=>
  rw[hg]at hR;obtain⟨f,hf,hfd⟩:=Ny hg;have hdl:=hd f hf;rw[hfd]at hdl;have h3:=aoy d hdl;have hul:=Ef d;have hkr:=XS d;have hck:(cQ d).2.2=0->eS (cQ d).1 (cQ d).2.1=0:=Ee;have hR:cR (λh r _=>h=[]/\r=fW (nJ id (cQ d))) R:=hR;obtain⟨x,hx⟩:∃x,x=cQ d:=⟨_,rfl⟩;rw[<-hx]at hR hul h3 hck hkr;clear hx;obtain⟨k,t,e⟩:=x;unfold nJ at hR;simp only at hR hul hck hkr;unfold fW eI at h3;simp only at h3;simp(disch:=first | omega | (simp only[Lx];omega))only[go_sem,simprocAttr,aCj,aBy]
  refine aw h3 rfl rfl ?_;by_cases he:e=0
  ·subst he;rw[if_neg (by simp)]at hR;have hrid:=aqq k t aA4 aA4 (w7 (hck rfl));unfold eI at hrid;refine wW ?_;refine aw hrid rfl rfl ?_;generalize Sh.bW (Sh.ep (gk k t))=is at *
   by_cases hx:is=id
   ·rw[if_pos hx]at hR;simp(disch:=first | omega | (simp only[Lx];omega))only[go_sem,simprocAttr,hx]
    exact hR.ro ⟨rfl,rfl⟩
   ·rw[if_neg hx]at hR;simp(disch:=first | omega | (simp only[Lx];omega))only[go_sem,simprocAttr,hx]
    exact hR.ro ⟨rfl,rfl⟩
  ·rw[if_pos he]at hR;simp(disch:=first | omega | (simp only[Lx];omega))only[go_sem,simprocAttr,he]
   exact hR.ro ⟨rfl,rfl⟩
end Go.Proofs.YtoalcafkffmiiaaGreatDoor.Ls
