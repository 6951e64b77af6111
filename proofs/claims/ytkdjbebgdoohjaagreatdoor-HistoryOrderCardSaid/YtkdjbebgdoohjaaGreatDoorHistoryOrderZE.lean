/- The proof, part 31 of 50. -/
import Derived.Test.YtkdjbebgdoohjaaGreatDoorHistoryOrderZC
import Derived.Test.YtkdjbebgdoohjaaGreatDoorHistoryOrderZD
set_option linter.all false
namespace Go.Proofs.YtkdjbebgdoohjaaGreatDoor.Cm
open Eng Ob
set_option maxRecDepth 10000
theorem Dd {p s:Bs}:Lib.hasPrefix s p=decide (p <+: s):=by
 unfold Lib.hasPrefix;by_cases h:p <+: s
 ·rw[decide_eq_true h];exact abP.2 h
 ·rw[decide_eq_false h]
  cases hb:p.isPrefixOf s with
  | false=>rfl
  | true=>exact absurd (abP.1 hb) h
theorem ra (s p:Bs):aw Tryz.prog 108 [.str s,.str p] (.ab [.str (if p <+: s then s.drop p.length else s),.bool (decide (p <+: s))]):=
 lC rfl rfl (λw=>by
  have:=Tryz.strings_CutPrefix ⟨s.toArray⟩ ⟨p.toArray⟩ w;simp only[Lib.trimPrefix,Dd]at this;refine this.mono ?_;rintro e w' ⟨rfl,rfl⟩;refine⟨?_,rfl⟩;by_cases h:p <+: s
  ·rw[if_pos (decide_eq_true h),if_pos h];rfl
  ·rw[if_neg (by rw[decide_eq_false h];decide),if_neg h];rfl)
theorem MQ (s p:Bs):aw Tryz.prog 52 [.str s,.str p] (.bool (decide (p <+: s))):=
 lC rfl rfl (λw=>by
  have:=Tryz.strings_HasPrefix ⟨s.toArray⟩ ⟨p.toArray⟩ w;rw[Dd]at this
  exact this)
theorem r9 (s:Bs) (hs:s.length<=4000000000000000000):aw Tryz.prog 109 [.str s,.int .u8 32] (.int .i64 (Lib.lastIndexByte ⟨s.toArray⟩ 32)):=
 lC rfl rfl (λw=>Tryz.strings_LastIndexByte ⟨s.toArray⟩ 32 (by show s.toArray.size<_;simp;omega) w)
theorem sc (s:Bs):(Lib.lastIndexByte ⟨s.toArray⟩ 32 = -1/\lcut 32 s=none)\/∃j:Nat,j<s.length/\Lib.lastIndexByte ⟨s.toArray⟩ 32=(j:Int)/\lcut 32 s=some (s.take j,s.drop (j+1)):=by
 have au:(⟨s.toArray⟩:ByteArray).size=s.length:=by simp[ByteArray.size]
 have hg:∀j,j<s.length->((⟨s.toArray⟩:ByteArray).data[j]!)=s.getD j 0:=by
  intro j hj;simp[hj]
 have hne:∀(x:UInt8),((x.toNat:Int)≠32)->x≠32:=λx h e=>h (by rw[e];rfl);rcases Lib.lastIndexByte_spec ⟨s.toArray⟩ 32 with⟨h1,h2⟩ | ⟨i,h1,h2,h3,h4⟩
 ·refine .inl ⟨h1,wq (λhm=>?_)⟩;obtain⟨j,hj,hx⟩:=aa7.1 hm;have:=h2 j ZG;rw[hg j hj]at this;refine hne _ this ?_;rw[<-hx];simp[hj]
 ·rw[au]at h1 h4;rw[hg i h1]at h3;have hx:s.getD i 0=32:=UInt8.toNat.inj (by show _=32;omega);refine .inr ⟨i,h1,h2,?_⟩
  have hs:s=s.take i++32::s.drop (i+1):=by
   rw[<-hx]
   conv=>lhs;rw[<-abi i s]
   congr 1
   rw[aak h1];simp[h1]
  have hn:(32:UInt8)∉s.drop (i+1):=by
   intro hm;obtain⟨j,hj,hx⟩:=aa7.1 hm;rw[ZN]at hj;have:=h4 (i+1+j) ZG ZG;rw[hg _ ZG]at this;refine hne _ this ?_;rw[List.getElem_drop]at hx;rw[<-hx];have:i+1+j<s.length:=ZG;simp[this]
  conv=>lhs;rw[hs]
  exact B6 hn _
theorem C7:∀(l:Bs) (acc k u:Nat),acc<10^k->Lib.parseUint10 acc l=.ok u->u<10^(l.length+k)
 | [],acc,k,u,h,hu=>by
  simp[Lib.parseUint10]at hu
  simpa[<-hu]using h
 | c::r,acc,k,u,h,hu=>by
  simp only[Lib.parseUint10]at hu;split at hu
  ·rename_i hc;split at hu
   ·cases hu
   ·split at hu
    ·cases hu
    ·have:=C7 r (acc*10+(c.toNat-48)) (k+1) u (by rw[abR];omega) hu;rw[Z0,show r.length+1+k=r.length+(k+1)by omega];exact this
  ·cases hu
theorem QX {l:Bs} {u:Nat} (h:Lib.parseMag l=.ok u):u<10^l.length:=by
 unfold Lib.parseMag at h;split at h
 ·cases h
 exact C7 l 0 0 u (by decide) h
theorem Gu {l:Bs} {n:Int} (hl:l.length=4) (h:Lib.atoiAll l=.ok n):-999<=n/\n<=9999:=by
 cases l with
 | nil=>simp at hl
 | cons c r=>
  have hr:r.length=3:=by simpa using hl
  unfold Lib.atoiAll at h;simp only at h;split at h
  ·cases h
  ·cases h
  ·rename_i u hu;have hb:=QX hu;split at h
   ·cases h
   ·split at h
    ·cases h
    ·cases h;by_cases hc:c.toNat=45
     ·rw[if_pos (.inr hc),hr]at hb;rw[if_pos hc];simp at hb;omega
     ·rw[if_neg hc]
      have:u<10^4:=by
       split at hb
       ·rw[hr]at hb;simp at hb |-;omega
       ·rw[hl]at hb;exact hb
      simp at this;omega
theorem J8 {a b c d:UInt8} (ha:ga a=true) (hb:ga b=true) (hc:ga c=true) (hd:ga d=true):Lib.atoiAll [a,b,c,d]=.ok ((dv a*1000+dv b*100+dv c*10+dv d:Nat):Int):=by
 unfold ga at ha hb hc hd;simp only[ZS,decide_eq_true_eq]at ha hb hc hd;have h1:¬a.toNat=43:=ZG;have h2:¬a.toNat=45:=ZG;unfold Lib.atoiAll;simp only[h1,h2,if_false,or_self]
 have hm:Lib.parseMag [a,b,c,d]=.ok (dv a*1000+dv b*100+dv c*10+dv d):=by
  unfold Lib.parseMag dv;rw[if_neg (by simp)];simp only[Lib.parseUint10];rw[if_pos ha,if_neg ZG,if_neg ZG,if_pos hb,if_neg ZG,if_neg ZG,if_pos hc,if_neg ZG,if_neg ZG,if_pos hd,if_neg ZG,if_neg ZG]
  congr 1
  omega
 rw[hm];simp only;have:dv a*1000+dv b*100+dv c*10+dv d<10000:=by unfold dv;omega
 rw[if_neg ZG,if_neg ZG]
theorem iT {t:TypeId} {st:St} (ht:t=184:=by rfl):(KQ.dies jt).ap (.panic (bp (.iface t (.agg #[])))) st:=by
 subst ht;exact of_eq_true k9
theorem sX (w s v r:Bs) (h:cz w s=some (v,r)) (hs:s.length<=4000000000000000000) (hw:w.length<=100) :
    Eng.Spec Tryz.prog 68 [(12007,.var [.str s])] [.aa 12007 0,.str w] (λh' x ar=>h'=[(12007,.var [.str r])]/\x=.str v/\ar=[.aa 12007 0,.str w]):=by
 refine Cod.UY (λE R hN hR=>?_);unfold cz at h;split at h
 ·rename_i hc;obtain⟨h1,h2⟩:=hc;obtain⟨rfl,rfl⟩:=Prod.mk.inj (Option.some.inj h);generalize hq:cutP 10 s=q at *
  obtain⟨l,rest,ok⟩:=q;simp only at h1 h2;subst h1;have hcut:=q9 s 10 ZG;rw[hq]at hcut;have hp:=ra l (w++[32]);rw[if_pos h2,decide_eq_true h2]at hp;refine wW ?_;refine an hcut rfl rfl ?_;simp(disch:=omega)only[go_sem,simprocAttr,mW];refine an hp rfl rfl ?_;refine wW ?_;refine gG ?_;exact hR.wk rfl (.le vV) ⟨rfl,rfl,rfl⟩
 ·cases h
theorem xC (w s:Bs) (h:cz w s=none) (hs:s.length<=4000000000000000000) (hw:w.length<=100) :
    Eng.dW Tryz.prog 68 [(12007,.var [.str s])] [.aa 12007 0,.str w] jt:=by
 refine Cod.UX (λE hN=>?_);unfold cz at h;split at h
 ·cases h
 ·rename_i hc;generalize hq:cutP 10 s=q at *
  obtain⟨l,rest,ok⟩:=q;simp only[not_and]at hc;have hcut:=q9 s 10 ZG;rw[hq]at hcut;have hp:=ra l (w++[32]);refine wW ?_;refine an hcut rfl rfl ?_;simp(disch:=omega)only[go_sem,simprocAttr,mW];refine an hp rfl rfl ?_
  cases ok with
  | false=>
   refine wW ?_;refine gG ?_
   exact iT
  | true=>
   have hc:=hc rfl;rw[if_neg hc,decide_eq_false hc]at hp;refine wW ?_;refine gG ?_;exact iT
theorem Cs (s:Bs):iB s=if[10] <+: s then some (s.drop 1)else none:=by
 cases s with
 | nil=>simp[iB]
 | cons c r=>
  by_cases h:c=10
  ·subst h;simp[iB]
  ·have:¬[10] <+: c::r:=by
    rintro⟨t,ht⟩;exact h (List.cons.inj ht).1.symm
   simp[iB,h,this]
theorem U1 (s m:Bs) (h:iB s=some m):Eng.Spec Tryz.prog 70 [(12007,.var [.str s])] [.aa 12007 0] (λh' x ar=>h'=[(12007,.var [.str s])]/\x=.str m/\ar=[.aa 12007 0]):=by
 refine Cod.U2 (λE R hN hR=>?_);have hp:=ra s [10];rw[Cs]at h;split at h
 ·rename_i hc;rw[if_pos hc,decide_eq_true hc]at hp;obtain rfl:=Option.some.inj h;refine wW ?_;refine an hp rfl rfl ?_;refine wW ?_;exact hR.wk rfl (.le vV) ⟨rfl,rfl,rfl⟩
 ·cases h
theorem U0 (s:Bs) (h:iB s=none):Eng.dW Tryz.prog 70 [(12007,.var [.str s])] [.aa 12007 0] jt:=by
 refine Cod.UZ (λE hN=>?_);have hp:=ra s [10];rw[Cs]at h;split at h
 ·cases h
 ·rename_i hc;rw[if_neg hc,decide_eq_false hc]at hp;refine wW ?_;refine an hp rfl rfl ?_;refine wW ?_;exact iT
open Eng Ob
set_option maxRecDepth 10000
theorem XF {E:Env} {R:HP->AV->List AV->Prop} {w r l z:Bs} {i:Nat} {tm zn:Int} (hz:zoneO z=some zn) (hi:i<l.length) (hN:E.N<=1000000)
    (hR:cF (λh' x ar=>h'=[(12007,.var [.str r])]/\x=iD ⟨l.take i,tm,zn⟩/\ar=[.aa 12007 0,.str w]) R) :
    vcW Tryz.prog E Cod.DF (KQ.post [.cell 4 true 3] 2 R) ⟨[(4,.aa 11004 0),(5,.str l),(7,.int .i64 i),(8,.int .i64 tm),(10,.str z),(59,.bool false),(2000000,.aa 12007 0),(2000001,.str w)],[(12007,.var [.str r]),(11004,.var [.str [],.int .i64 0,.int .i64 0])]⟩:=by
 obtain⟨zz,z0,z1⟩:=yp hz;have hzo:=E6 zn z0 z1;unfold zoneO at hz;split at hz
 ·rename_i s a b c d;split at hz
  ·rename_i hd;obtain⟨da,db,dc,dd⟩:=hd;split at hz
   ·rename_i hc;obtain⟨hm,hs,_⟩:=hc;have hn:=Option.some.inj hz;have la:=kS da;have lb:=kS db;have lc:=kS dc;have ld:=kS dd;have hat:=J8 da db dc dd;obtain⟨n,hn4⟩:∃n:Nat,dv a*1000+dv b*100+dv c*10+dv d=n:=⟨_,rfl⟩;rw[hn4]at hat;have ha:=ox [a,b,c,d] (by simp);obtain⟨m,hmm⟩:∃m:Nat,n/100*60+n%100=m:=⟨_,rfl⟩;have hm1:m=60*(dv a*10+dv b)+(dv c*10+dv d):=ZG;rw[<-hm1]at hn;rw[zz]at hzo;refine wW ?_;refine dR ha rfl ?_;rintro h' v as' ⟨rfl,hv⟩;unfold atoiA at hv;rw[hat]at hv;simp only at hv;subst hv;refine⟨rfl,rfl,?_⟩;have hmod:n%100<60:=ZG;have e1:(n:Int)/100*60+(n:Int)%100=(m:Int):=ZG;refine wW ?_;refine gG ?_;refine ah e1 ?_;refine ah @Eng.jn ?_;by_cases hs5:s=45
    ·subst hs5;rw[if_pos rfl]at hn;rw[<-hn]at hzo hR;have e45:((UInt8.toNat 45:Nat):Int)=45:=rfl;refine ah e45 ?_;refine cV hN ?_;refine wW ?_;rw[show(0:Int)-(m:Int) = -(m:Int)by omega];refine an hzo rfl rfl ?_;refine wW ?_;exact hR.wk (h':=[(12007,.var [.str r])]) (r':=iD ⟨l.take i,tm,-(m:Int)⟩) (ar':=[.aa 12007 0,.str w]) rfl (.le (by simp(disch:=omega)only[go_sem,simprocAttr,iD])) ⟨rfl,rfl,rfl⟩
    ·rw[if_neg hs5]at hn;rw[<-hn]at hzo hR;have hs45:¬((s.toNat:Int)=45):=λe=>hs5 (UInt8.toNat.inj (by show _=45;omega));refine ah hs45 ?_;refine cV hN ?_;refine wW ?_;refine an hzo rfl rfl ?_;refine wW ?_;exact hR.wk (h':=[(12007,.var [.str r])]) (r':=iD ⟨l.take i,tm,(m:Int)⟩) (ar':=[.aa 12007 0,.str w]) rfl (.le (by simp(disch:=omega)only[go_sem,simprocAttr,iD])) ⟨rfl,rfl,rfl⟩
   ·cases hz
  ·cases hz
 ·cases hz
theorem DJ (w s l r:Bs) (sg:Sg) (h:cz w s=some (l,r)) (hl:signL l=some sg) (hs:s.length<=4000000000000000000) (hll:l.length<=140737488351232) (hw:w.length<=100) :
    Eng.Spec Tryz.prog 69 [(12007,.var [.str s])] [.aa 12007 0,.str w] (λh' x ar=>h'=[(12007,.var [.str r])]/\x=iD sg/\ar=[.aa 12007 0,.str w]):=by
 refine Cod.Vi (λE R hN hR=>?_);have hlen:=iA h;have hln:=sX w s l r h hs hw;obtain⟨sT,⟨t0,t1⟩,z0,z1⟩:=xL hl;unfold signL at hl;split at hl
 ·cases hl
 rename_i x z hx;split at hl
 ·cases hl
 rename_i wh t hw2;split at hl
 ·cases hl
 rename_i tm ht;split at hl
 ·cases hl
 rename_i zn hz;obtain rfl:=Option.some.inj hl;simp only at t0 t1 z0 z1;rcases sc l with⟨_,e⟩ | ⟨j,hj,hlj,e⟩
 ·rw[hx]at e;cases e
 rw[hx]at e;obtain⟨rfl,rfl⟩:=Prod.mk.inj (Option.some.inj e);rcases sc (l.take j)with⟨_,e⟩ | ⟨i,hi,hli,e⟩
 ·rw[hw2]at e;cases e
 rw[hw2]at e;obtain⟨rfl,rfl⟩:=Prod.mk.inj (Option.some.inj e);rw[ZL]at hi;obtain⟨n1,n2,_,_⟩:=CM ht;obtain⟨zz,_,_⟩:=yp hz;have hb1:=r9 l ZG;have hb2:=r9 (l.take j) (by rw[ZL];omega);rw[hlj]at hb1;rw[hli]at hb2;have ha1:=ox ((l.take j).drop (i+1)) (by rw[ZN,ZL];omega);have hit:=px tm t0 t1;have e1:((j:Int)).toNat=j:=ZG;have e2:((i:Int)+1).toNat=i+1:=ZG;have e3:List.take (j-(i+1)) (List.drop (i+1) l)=(l.take j).drop (i+1):=by rw[acm]
 refine wW ?_;refine dY ?_;refine aW [(12007,.var [.str s])] hln vV nofun ?_;rintro h' v as' ⟨rfl,rfl,rfl⟩;refine⟨rfl,rfl,?_⟩;refine wW ?_;refine an hb1 rfl rfl ?_;refine wW ?_;refine an hb2 rfl rfl ?_;refine aE e2 e3 ?_;refine dR ha1 rfl ?_;rintro h' v as' ⟨rfl,hv⟩;unfold atoiA at hv;rw[n2]at hv;simp only at hv;subst hv;refine⟨rfl,rfl,?_⟩;generalize hT:(l.take j).drop (i+1)=T at *
 generalize hZ:l.drop (j+1)=z at *
 have hz5:z.length=5:=by rw[<-zz];rfl
 refine wW ?_;refine gG ?_;refine fH (eS vV hit vV rfl rfl ?_);refine cM e2 e3 n1 hZ hz5 ?_;refine l4 e2 e3 n1 hZ hz5 ?_;rw[List.take_take,aag ZG]at hR;have T:=XF (w:=w) (r:=r) (l:=l) (i:=i) (tm:=tm) hz ZG hN hR;have hd1:(List.drop 1 z).length=4:=by rw[ZN];omega
 simp(disch:=omega)only[go_sem,simprocAttr]at T;exact T
theorem Zw {z:Bs} (h:zoneO z=none) {n:Int} (h0:-5999<=n) (h1:n<=5999):¬jX n=z:=λe=>by
 have:=Zv n h0 h1;rw[e,h]at this;cases this
theorem T6 {n:Int} (h0:-999<=n) (h1:n<=9999) (h2:n.tmod 100<60):-639<=n.tdiv 100*60+n.tmod 100/\n.tdiv 100*60+n.tmod 100<=5999:=by
 have e:=Int.mul_tdiv_add_tmod n 100;by_cases hn:0<=n
 ·rw[aaH hn,aaI hn]at *
  omega
 ·obtain⟨m,rfl⟩:∃m:Int,n = -m:=⟨-n,ZG⟩;rw[Int.neg_tdiv,Int.neg_tmod,aaH ZG,aaI ZG]at *
  omega
theorem T5 {n:Int} (h0:-999<=n) (h1:n<=9999):∃a b:Int,n.tdiv 100=a/\n.tmod 100=b /\ -9<=a/\a<=99 /\ -99<=b/\b<=99:=by
 refine⟨_,_,rfl,rfl,?_⟩;by_cases hn:0<=n
 ·rw[aaH hn,aaI hn]at *
  omega
 ·obtain⟨m,rfl⟩:∃m:Int,n = -m:=⟨-n,ZG⟩;rw[Int.neg_tdiv,Int.neg_tmod,aaH ZG,aaI ZG]at *
  omega
theorem yP (s:Bs):(∃n,Lib.atoiAll s=.ok n/\∀v,atoiA s v->v=.ab [.int .i64 n,.lit .nilIface])\/∀v,atoiA s v->∃n t p,v=.ab [.int .i64 n,.lit (.iface t p)]:=by
 unfold atoiA;cases Lib.atoiAll s
 ·rename_i n;exact .inl ⟨n,rfl,λv h=>h⟩
 exact .inr λv h=>h;exact .inr λv h=>h
theorem XE {E:Env} {w r l z:Bs} {i:Nat} {tm:Int} (hz:zoneO z=none) (hz5:z.length=5) (hi:i<l.length) (hl:l.length<=140737488351232) (hN:E.N<=1000000) :
    vcW Tryz.prog E Cod.DF (KQ.dies jt) ⟨[(4,.aa 11004 0),(5,.str l),(7,.int .i64 i),(8,.int .i64 tm),(10,.str z),(59,.bool false),(2000000,.aa 12007 0),(2000001,.str w)],[(12007,.var [.str r]),(11004,.var [.str [],.int .i64 0,.int .i64 0])]⟩:=by
 have ha:=ox (z.drop 1) (by rw[ZN];omega);have hd1:(List.drop 1 z).length=4:=by rw[ZN];omega
 refine wW ?_;refine dR ha rfl ?_;rintro h' v as' ⟨rfl,hv⟩;rcases yP (z.drop 1)with⟨n,hat,hn⟩ | hn
 ·obtain rfl:=hn v hv;refine⟨rfl,rfl,?_⟩;obtain⟨n0,n1⟩:=Gu hd1 hat;have hq:=T6 n0 n1;obtain⟨a,b,ha0,hb0,a0,a1,b0,b1⟩:=T5 n0 n1;rw[ha0,hb0]at hq;by_cases hm:b<60
  ·obtain⟨q0,q1⟩:=hq hm;refine aE ha0 hb0 ?_;refine ee ha0 hb0 ?_;generalize a*60+b=zn at *
   obtain⟨s,r',rfl⟩:∃s r',z=s::r':=by
    cases z with
    | nil=>simp at hz5
    | cons s r'=>exact⟨s,r',rfl⟩
   have fin:∀m:Int,-5999<=m->m<=5999->vcW Tryz.prog E Cod.Vh (KQ.dies jt) ⟨[(4,.aa 11004 0),(10,.str (s::r')),(12,.aa 11012 0),(2000000,.aa 12007 0),(2000001,.str w)],[(11012,.var [.str (l.take i),.int .i64 tm,.int .i64 m]),(12007,.var [.str r]),(11004,.var [.str [],.int .i64 0,.int .i64 0])]⟩:=by
    intro m m0 m1;have hne:=Zw hz m0 m1;refine wW ?_;refine an (E6 m m0 m1) rfl rfl ?_;refine wW ?_;exact iT
   by_cases hs5:s=45
   ·subst hs5;have e45:((UInt8.toNat 45:Nat):Int)=45:=rfl;have:=fin (0-zn) ZG ZG;refine aE @Eng.jn e45 ?_;exact kF hN _ (.le vV) this
   ·have hs45:¬((s.toNat:Int)=45):=λe=>hs5 (UInt8.toNat.inj (by show _=45;omega));have:=fin zn ZG ZG;refine aE @Eng.jn hs45 ?_;exact kF hN _ (.le vV) this
  ·refine aE ha0 hb0 ?_;refine ee ha0 hb0 ?_;exact iT
 ·obtain⟨n,t,p,rfl⟩:=hn v hv;refine⟨rfl,rfl,?_⟩;refine wW ?_;refine gG ?_;exact iT
theorem DI (w s:Bs) (h:cz w s=none) (hs:s.length<=4000000000000000000) (hw:w.length<=100) :
    Eng.dW Tryz.prog 69 [(12007,.var [.str s])] [.aa 12007 0,.str w] jt:=by
 refine Cod.DG (λE hN=>?_);have hd:=xC w s h hs hw;refine wW ?_;refine eU [(12007,.var [.str s])] hd vV ?_;exact vV
theorem DH (w s l r:Bs) (h:cz w s=some (l,r)) (hl:signL l=none) (hs:s.length<=4000000000000000000) (hll:l.length<=140737488351232) (hw:w.length<=100) :
    Eng.dW Tryz.prog 69 [(12007,.var [.str s])] [.aa 12007 0,.str w] jt:=by
 refine Cod.DG (λE hN=>?_);have hlen:=iA h;have hln:=sX w s l r h hs hw;have hb1:=r9 l ZG;refine wW ?_;refine dY ?_;refine aW [(12007,.var [.str s])] hln vV nofun ?_;rintro h' v as' ⟨rfl,rfl,rfl⟩;refine⟨rfl,rfl,?_⟩;unfold signL at hl;rcases sc l with⟨hlj,e⟩ | ⟨j,hj,hlj,e⟩
 ·rw[hlj]at hb1;refine wW ?_;refine an hb1 rfl rfl ?_;refine wW ?_;exact iT
 rw[hlj]at hb1;rw[e]at hl;simp only at hl;have hb2:=r9 (l.take j) (by rw[ZL];omega);have e1:((j:Int)).toNat=j:=ZG;rcases sc (l.take j)with⟨hli,e'⟩ | ⟨i,hi,hli,e'⟩
 ·rw[hli]at hb2;refine wW ?_;refine an hb1 rfl rfl ?_;refine wW ?_;refine an hb2 rfl rfl ?_;refine wW ?_;exact iT
 rw[hli]at hb2;rw[e']at hl;simp only at hl;rw[ZL]at hi;have e2:((i:Int)+1).toNat=i+1:=ZG;have e3:List.take (j-(i+1)) (List.drop (i+1) l)=(l.take j).drop (i+1):=by rw[acm]
 have ha1:=ox ((l.take j).drop (i+1)) (by rw[ZN,ZL];omega);refine wW ?_;refine an hb1 rfl rfl ?_;refine wW ?_;refine an hb2 rfl rfl ?_;refine aE e2 e3 ?_;refine dR ha1 rfl ?_;rintro h' v as' ⟨rfl,hv⟩;generalize hT:(l.take j).drop (i+1)=T at *
 generalize hZ:l.drop (j+1)=z at *
 rcases yP T with⟨tm,hat,hn⟩ | hn
 ·obtain rfl:=hn v hv;refine⟨rfl,rfl,?_⟩;have tb:=Lib.atoiAll_bounds hat;have hit:=px tm tb.1 tb.2;by_cases hit2:Lib.itoa tm=T
  ·have hnum:numI T=some tm:=by unfold numI;rw[hat];simp only;rw[if_pos hit2]
   rw[hnum]at hl;simp only at hl
   have hzo:zoneO z=none:=by
    cases hz:zoneO z with
    | none=>rfl
    | some q=>rw[hz]at hl;cases hl
   by_cases hz5:z.length=5
   ·have T:=XE (w:=w) (r:=r) (l:=l) (i:=i) (tm:=tm) hzo hz5 ZG ZG hN;have hd1:(List.drop 1 z).length=4:=by rw[ZN];omega
    simp(disch:=omega)only[go_sem,simprocAttr]at T;refine wW ?_;refine gG ?_;refine fH (eS vV hit vV rfl rfl ?_);refine cM e2 e3 hit2 hZ hz5 ?_;refine l4 e2 e3 hit2 hZ hz5 ?_;exact T
   ·refine wW ?_;refine gG ?_;refine fH (eS vV hit vV rfl rfl ?_);refine cM e2 e3 hit2 hZ hz5 ?_;refine l4 e2 e3 hit2 hZ hz5 ?_;exact iT
  ·refine wW ?_;refine gG ?_;refine fH (eS vV hit vV rfl rfl ?_);refine cq e2 e3 hit2 hZ ?_;refine kX e2 e3 hit2 hZ ?_;exact iT
 ·obtain⟨n,t,p,rfl⟩:=hn v hv;refine⟨rfl,rfl,?_⟩;refine wW ?_;refine gG ?_;exact iT
def parts (c:fW) (p:AV):AV:=.agg [.str c.tree,p,.str c.eI.dj,.int .i64 c.eI.time,.int .i64 c.eI.eH,.str c.eJ.dj,.int .i64 c.eJ.time,.int .i64 c.eJ.eH,.str c.msg]
def Th (s:Bs) (x:AV):Prop:=(∃c,parseL s=some c/\x=.ab [fj c,.int .i64 0])\/(parseL s=none/\∃c,∃p:AV,(p=.aj\/∃ps:List Bs,p=.ro 1 (ps.map .str))/\x=.ab [parts c p,.int .i64 3])
def parseT (t s1:Bs):Option fW:=
 match parL s1 with
 | none=>none
 | some (ps,s2)=>match cz iI s2 with
  | none=>none
  | some (a,s3)=>match signL a with
   | none=>none
   | some sa=>match cz iJ s3 with
    | none=>none
    | some (b,s4)=>match signL b with
     | none=>none
     | some sb=>match iB s4 with
      | none=>none
      | some m=>some ⟨t,ps,sa,sb,m⟩
theorem S7 {s t s1:Bs} (h:cz jW s=some (t,s1)):parseL s=parseT t s1:=by
 unfold parseL;rw[h];rfl
def lk (t:Bs) (ps:List Bs) (s2:Bs):Option fW:=
 match cz iI s2 with
  | none=>none
  | some (a,s3)=>match signL a with
   | none=>none
   | some sa=>match cz iJ s3 with
    | none=>none
    | some (b,s4)=>match signL b with
     | none=>none
     | some sb=>match iB s4 with
      | none=>none
      | some m=>some ⟨t,ps,sa,sb,m⟩
theorem Tb {t s1:Bs} (h:parL s1=none):parseT t s1=none:=by unfold parseT;rw[h]
theorem Ta {t s1 s2:Bs} {ps:List Bs} (h:parL s1=some (ps,s2)):parseT t s1=lk t ps s2:=by unfold parseT;rw[h];rfl
theorem QZ (q:Option (List Bs×Bs)):q=q.map λq=>([]++q.1,q.2):=by cases q<;>rfl
structure ui (s:Bs):Prop where
 len:s.length<=4000000000000000000
 par:∀t s1 s2 ps,cz jW s=some (t,s1)->parL s1=(parL s2).map (λq=>(ps++q.1,q.2))->ps.length+s2.length<=s1.length->ps.length<=4000000000000
 D3:∀t s1 s2 ps al s3,cz jW s=some (t,s1)->parL s1=some (ps,s2)->cz iI s2=some (al,s3)->al.length<=140737488351232/\∀bl s4,cz iJ s3=some (bl,s4)->bl.length<=140737488351232
theorem S6 {s:Bs} (hs:s.length<=1000000000000):ui s where
 len:=ZG
 par:=λt s1 s2 ps h _ hl=>by have:=iA h;omega
 D3:=λt s1 s2 ps al s3 h hp ha=>by
  have h1:=iA h;have h2:=(w8 _ (ZM _) hp).1;have h3:=iA ha;have:s2.length<=s1.length:=by rw[h2];simp
  exact⟨ZG,λbl s4 hb=>by have:=iA hb;omega⟩
theorem xc (s:Bs) (hB:ui s):Eng.Spec Tryz.prog 43 [] [.str s] (λh x _=>h=[]/\Th s x):=by
 have hs:=hB.len;refine Cod.Tg MD vm (λE0 R hN0 hR=>?_);refine ah @EP ?_;refine Pv (by simp(disch:=omega)only[go_sem,simprocAttr];rfl) (λE hN=>?_)
 cases hT:cz jW s with
 | none=>
  have hno:parseL s=none:=by unfold parseL;rw[hT]
  have hd:=xC jW s hT hs (by decide);unfold jW at hd;refine wW ?_;refine eU [(12007,.var [.str s])] hd vV ?_;refine wW ?_
  exact hR.wk (h':=[]) (r':=.ab [parts ⟨[],[],⟨[],0,0⟩,⟨[],0,0⟩,[]⟩ .aj,.int .i64 3]) (ar':=[.undef]) rfl (.le (by simp(disch:=omega)only[go_sem,simprocAttr,parts])) ⟨rfl,.inr ⟨hno,_,_,.inl rfl,rfl⟩⟩
 | some q=>
  obtain⟨t,s1⟩:=q;have hln:=sX jW s t s1 hT hs (by decide);have hlen:=iA hT;unfold jW at hln hlen;have hPT:=S7 hT;refine wW ?_;refine dY ?_;refine aW [(12007,.var [.str s])] hln vV nofun ?_;rintro h' v as' ⟨rfl,rfl,rfl⟩;refine⟨rfl,rfl,?_⟩;refine wW ?_
  refine aP hN (λa:List Bs×Bs=>⟨[(2,.aa 12002 0),(3,.aa 12003 0),(4,.aa 12007 0),(2000001,.aa 12003 0)],
   [(12007,.var [.str a.2]),(12003,.var [.int .i64 0]),(12002,.var [.str t,.sl 12021 0 a.1.length,.str [],.int .i64 0,.int .i64 0,.str [],.int .i64 0,.int .i64 0,.str []]),(12021,.arr 1 (a.1.map .str))]⟩)
   (λa=>parL s1=(parL a.2).map (λq=>(a.1++q.1,q.2))/\a.1.length+a.2.length<=s1.length) (λa=>a.2.length) ([],s1) (.lh 12002 1 12021 1 _ (by simp(disch:=omega)only[go_sem,simprocAttr];rfl) rfl rfl (.le vV)) ⟨QZ _,by simp⟩ ?_
  rintro⟨ps,s2⟩ R1 ⟨hpar,hle⟩ hR1;simp only at hpar hle;simp only[Z0,aai]at hlen;have hps:ps.length<=4000000000000:=hB.par _ _ _ _ hT hpar hle;have hpre:=MQ s2 kv;unfold kv at hpre
  have dead:parseL s=none->∀(m:Bs) (x y:Sg),R [(12003,.var [.int .i64 3]),(12002,.var [.str t,.sl 12021 0 ps.length,.str x.dj,.int .i64 x.time,.int .i64 x.eH,.str y.dj,.int .i64 y.time,.int .i64 y.eH,.str m]),(12021,.arr 1 (ps.map .str))] (.ab [.agg [.str t,.sl 12021 0 ps.length,.str x.dj,.int .i64 x.time,.int .i64 x.eH,.str y.dj,.int .i64 y.time,.int .i64 y.eH,.str m],.int .i64 3]) [.undef]:=by
   intro hno m x y;exact hR.wk (h':=[]) (r':=.ab [parts ⟨t,ps,x,y,m⟩ (.ro 1 (ps.map .str)),.int .i64 3]) (ar':=[.undef]) rfl (.bo 12021 (.le (by simp(disch:=omega)only[go_sem,simprocAttr,parts]))) ⟨rfl,.inr ⟨hno,_,_,.inr ⟨ps,rfl⟩,rfl⟩⟩
  by_cases hp:kv <+: s2
  ·rw[decide_eq_true (by exact hp)]at hpre
   cases hl:cz jV s2 with
   | none=>
    have hno:parseL s=none:=by rw[hPT];exact Tb (by rw[hpar,C6 hp hl];rfl)
    have dead:=dead hno [] ⟨[],0,0⟩ ⟨[],0,0⟩;have hd:=xC jV s2 hl ZG (by decide);unfold jV at hd;refine wW ?_;refine an hpre rfl rfl ?_;refine wW ?_;refine FQ (by decide) ?_;refine wW ?_
    (repeat' (with_reducible refine And.intro ?_ ?_))<;>refine zW [(12007,.var [.str s2])] hd vV ?_<;>(simp(disch:=omega)only[go_sem,simprocAttr];exact dead)
   | some q=>
    obtain⟨pv,r⟩:=q;have hln:=sX jV s2 pv r hl ZG (by decide);have hlen2:=iA hl;unfold jV at hln hlen2;refine wW ?_;refine an hpre rfl rfl ?_;refine wW ?_;refine FT ?_;refine wW ?_
    constructor<;>refine aW [(12007,.var [.str s2])] hln vV nofun ?_<;>(
     rintro h' v as' ⟨rfl,rfl,rfl⟩;refine⟨rfl,rfl,?_⟩;refine wW ?_;refine hR1 (ps++[pv],r) _ (by simp only;omega) ⟨?_,by simp only[ZJ,Z0,aai];omega⟩ (.le ?_)
     ·rw[hpar,C4 hp hl,Option.map_map]
      congr 1;funext q;simp
     ·simp(disch:=omega)only[go_sem,simprocAttr])
  ·rw[decide_eq_false (by exact hp)]at hpre;have hpar:parL s1=some (ps,s2):=by rw[hpar,C5 hp];simp
   have hPU:parseL s=lk t ps s2:=by rw[hPT];exact Ta hpar
   refine wW ?_;refine an hpre rfl rfl ?_;refine wW ?_
   cases ha:cz iI s2 with
   | none=>
    have dead:=dead (by rw[hPU];unfold lk;rw[ha]) [] ⟨[],0,0⟩ ⟨[],0,0⟩;have hd:=DI iI s2 ha ZG (by decide);unfold iI at hd;refine eU [(12007,.var [.str s2])] hd vV ?_;refine wW ?_
    exact dead
   | some q=>
    obtain⟨al,s3⟩:=q;have la:=iA ha;obtain⟨hall,hbll⟩:=hB.D3 _ _ _ _ _ _ hT hpar ha
    cases hsa:signL al with
    | none=>
     have dead:=dead (by rw[hPU];unfold lk;rw[ha];simp only;rw[hsa]) [] ⟨[],0,0⟩ ⟨[],0,0⟩;have hd:=DH iI s2 al s3 ha hsa ZG hall (by decide);unfold iI at hd;refine eU [(12007,.var [.str s2])] hd vV ?_;refine wW ?_
     exact dead
    | some sa=>
     have hok:=DJ iI s2 al s3 sa ha hsa ZG hall (by decide);unfold iI at hok;refine dY ?_;refine aW [(12007,.var [.str s2])] hok vV nofun ?_;rintro h' v as' ⟨rfl,rfl,rfl⟩;refine⟨rfl,rfl,?_⟩;simp(disch:=omega)only[go_sem,simprocAttr,iD]
     cases hb:cz iJ s3 with
     | none=>
      have dead:=dead (by rw[hPU];unfold lk;rw[ha];simp only;rw[hsa];simp only;rw[hb]) [] sa ⟨[],0,0⟩;have hd:=DI iJ s3 hb ZG (by decide);unfold iJ at hd;refine eU [(12007,.var [.str s3])] hd vV ?_;refine wW ?_
      exact dead
     | some q=>
      obtain⟨bl,s4⟩:=q;have lb:=iA hb;have hbl:=hbll _ _ hb
      cases hsb:signL bl with
      | none=>
       have dead:=dead (by rw[hPU];unfold lk;rw[ha];simp only;rw[hsa];simp only;rw[hb];simp only;rw[hsb]) [] sa ⟨[],0,0⟩;have hd:=DH iJ s3 bl s4 hb hsb ZG hbl (by decide);unfold iJ at hd;refine eU [(12007,.var [.str s3])] hd vV ?_;refine wW ?_
       exact dead
      | some sb=>
       have hok:=DJ iJ s3 bl s4 sb hb hsb ZG hbl (by decide);unfold iJ at hok;refine dY ?_;refine aW [(12007,.var [.str s3])] hok vV nofun ?_;rintro h' v as' ⟨rfl,rfl,rfl⟩;refine⟨rfl,rfl,?_⟩;simp(disch:=omega)only[go_sem,simprocAttr,iD]
       cases hm:iB s4 with
       | none=>
        have dead:=dead (by rw[hPU];unfold lk;rw[ha];simp only;rw[hsa];simp only;rw[hb];simp only;rw[hsb];simp only;rw[hm]) [] sa sb;have hd:=U0 s4 hm;refine eU [(12007,.var [.str s4])] hd vV ?_;refine wW ?_
        exact dead
       | some m=>
        have hyes:parseL s=some ⟨t,ps,sa,sb,m⟩:=by rw[hPU];unfold lk;rw[ha];simp only;rw[hsa];simp only;rw[hb];simp only;rw[hsb];simp only;rw[hm]
        have hok:=U1 s4 m hm;refine dY ?_;refine aW [(12007,.var [.str s4])] hok vV nofun ?_;rintro h' v as' ⟨rfl,rfl,rfl⟩;refine⟨rfl,rfl,?_⟩;refine wW ?_;exact hR.wk (h':=[]) (r':=.ab [fj ⟨t,ps,sa,sb,m⟩,.int .i64 0]) (ar':=[.undef]) rfl (.bo 12021 (.le (by simp(disch:=omega)only[go_sem,simprocAttr,fj]))) ⟨rfl,.inl ⟨_,hyes,rfl⟩⟩
def c0:fW:=⟨[],[],⟨[],0,0⟩,⟨[],0,0⟩,[]⟩
def gI (s:Bs):Int:=match parseL s with | none=>3 | some c=>b7 c
theorem Dq {s:Bs}:gI s=0↔∃c,parseL s=some c/\b7 c=0:=by
 unfold gI
 cases parseL s with
 | none=>simp
 | some c=>simp
def Uw (s:Bs) (x:AV):Prop:=(∃c,parseL s=some c/\b7 c=0/\x=.ab [fj c,.int .i64 0])\/(gI s≠0/\x=.ab [parts c0 .aj,.int .i64 (gI s)])
theorem S9 {s:Bs} {c:fW} (hs:s.length<=1000000000000) (h:parseL s=some c):uc c:=by
 obtain⟨e,_⟩:=S8 h
 have hp:∀(l:List Bs),l.length<=(parT l).length/\∀p∈l,p.length<=(parT l).length:=by
  intro l
  induction l with
  | nil=>simp
  | cons x r ih=>
   simp only[parT,ZJ,Z0];refine⟨ZG,λp hp=>?_⟩;rcases ZW.1 hp with rfl | hp;omega
   ·have:=ih.2 p hp;omega
 have hsg:∀g:Sg,g.dj.length<=(jR g).length:=by intro g;unfold jR;simp
 obtain⟨p1,p2⟩:=hp c.parents;have s1:=hsg c.eI;have s2:=hsg c.eJ;have hl:s.length=(gM c).length:=by rw[e]
 unfold gM at hl;simp only[ZJ,Z0]at hl;refine⟨ZG,⟨ZG,λp hp=>?_⟩,ZG,ZG,ZG⟩;have:=p2 p hp;omega
theorem Jj (s:Bs) (hB:ui s) (hz:∀c,parseL s=some c->uc c):Eng.Spec Tryz.prog 16 [] [.str s] (λh x _=>h=[]/\Uw s x):=by
 refine Cod.Jk (λE R hN hR=>?_);refine wW ?_;refine dR (xc s hB) rfl ?_;rintro h' v as' ⟨rfl,hv⟩;rcases hv with⟨c,hc,rfl⟩ | ⟨hno,c,p,hp,rfl⟩
 ·refine⟨rfl,rfl,?_⟩;have hck:=Io c (hz c hc);have hrc:gI s=b7 c:=by unfold gI;rw[hc]
  unfold fj at hck;simp(disch:=omega)only[go_sem,simprocAttr,fj,Eng.jn];refine an hck rfl rfl ?_;refine ah @Eng.jn ?_;by_cases h0:b7 c=0
  ·refine cV hN ?_;refine ah h0 ?_;exact hR.wk (h':=[]) (r':=.ab [fj c,.int .i64 0]) (ar':=[.undef]) rfl (.le (by simp(disch:=omega)only[go_sem,simprocAttr,fj])) ⟨rfl,.inl ⟨c,hc,h0,rfl⟩⟩
  ·refine cV hN ?_;refine ah h0 ?_;exact hR.wk (h':=[]) (r':=.ab [parts c0 .aj,.int .i64 (gI s)]) (ar':=[.undef]) rfl (.le (by simp(disch:=omega)only[go_sem,simprocAttr,parts,c0,hrc])) ⟨rfl,.inr ⟨by rw[hrc];exact h0,rfl⟩⟩
 ·have hrc:gI s=3:=by unfold gI;rw[hno]
  have fin:∀h0 a,R h0 (.ab [parts c0 .aj,.int .i64 3]) [a]:=λh0 a=>hR.wk (h':=[]) (r':=.ab [parts c0 .aj,.int .i64 (gI s)]) (ar':=[a]) rfl (.le (cU hrc)) ⟨rfl,.inr ⟨by rw[hrc];decide,rfl⟩⟩;unfold parts c0 at fin;rcases hp with rfl | ⟨ps,rfl⟩
  ·refine⟨rfl,rfl,?_⟩;simp(disch:=omega)only[go_sem,simprocAttr,parts,Eng.jn];refine cV hN ?_;refine wW ?_;exact fin _ _
  ·refine⟨rfl,rfl,?_⟩;simp(disch:=omega)only[go_sem,simprocAttr,parts,Eng.jn];refine cV hN ?_;refine wW ?_;exact fin _ _
end Go.Proofs.YtkdjbebgdoohjaaGreatDoor.Cm
