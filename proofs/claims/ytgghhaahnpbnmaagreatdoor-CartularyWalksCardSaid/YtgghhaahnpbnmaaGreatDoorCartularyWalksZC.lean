/- The proof, part 29 of 51. -/
import Derived.Test.YtgghhaahnpbnmaaGreatDoorCartularyWalksZA
import Derived.Test.YtgghhaahnpbnmaaGreatDoorCartularyWalksZB
set_option linter.all false
namespace Go.Proofs.YtgghhaahnpbnmaaGreatDoor.Cm
open Eng Ob
set_option maxRecDepth 10000
theorem Fc {p s:Bs}:Lib.hasPrefix s p=decide (p <+: s):=by
 unfold Lib.hasPrefix;by_cases h:p <+: s
 ·rw[decide_eq_true h];exact aex.2 h
 ·rw[decide_eq_false h]
  cases hb:p.isPrefixOf s with
  | false=>rfl
  | true=>exact absurd (aex.1 hb) h
theorem sP (s p:Bs):aw Tryz.prog 167 [.str s,.str p] (.ab [.str (if p <+: s then s.drop p.length else s),.bool (decide (p <+: s))]):=
 lj rfl rfl (λw=>by
  have:=Tryz.strings_CutPrefix ⟨s.toArray⟩ ⟨p.toArray⟩ w;simp only[Lib.trimPrefix,Fc]at this;refine this.mono ?_;rintro e w' ⟨rfl,rfl⟩;refine⟨?_,rfl⟩;by_cases h:p <+: s
  ·rw[if_pos (decide_eq_true h),if_pos h];rfl
  ·rw[if_neg (by rw[decide_eq_false h];decide),if_neg h];rfl)
theorem PV (s p:Bs):aw Tryz.prog 43 [.str s,.str p] (.bool (decide (p <+: s))):=
 lj rfl rfl (λw=>by
  have:=Tryz.strings_HasPrefix ⟨s.toArray⟩ ⟨p.toArray⟩ w;rw[Fc]at this
  exact this)
theorem ud (s:Bs) (hs:s.length<=4000000000000000000):aw Tryz.prog 168 [.str s,.int .u8 32] (.int .i64 (Lib.lastIndexByte ⟨s.toArray⟩ 32)):=
 lj rfl rfl (λw=>Tryz.strings_LastIndexByte ⟨s.toArray⟩ 32 (by show s.toArray.size<_;simp;omega) w)
theorem uf (s:Bs):(Lib.lastIndexByte ⟨s.toArray⟩ 32 = -1/\lcut 32 s=none)\/∃j:Nat,j<s.length/\Lib.lastIndexByte ⟨s.toArray⟩ 32=(j:Int)/\lcut 32 s=some (s.take j,s.drop (j+1)):=by
 have au:(⟨s.toArray⟩:ByteArray).size=s.length:=by simp[ByteArray.size]
 have hg:∀j,j<s.length->((⟨s.toArray⟩:ByteArray).data[j]!)=s.getD j 0:=by
  intro j hj;simp[hj]
 have hne:∀(x:UInt8),((x.toNat:Int)≠32)->x≠32:=λx h e=>h (by rw[e];rfl);rcases Lib.lastIndexByte_spec ⟨s.toArray⟩ 32 with⟨h1,h2⟩ | ⟨i,h1,h2,h3,h4⟩
 ·refine .inl ⟨h1,xV (λhm=>?_)⟩;obtain⟨j,hj,hx⟩:=aez.1 hm;have:=h2 j acB;rw[hg j hj]at this;refine hne _ this ?_;rw[<-hx];simp[hj]
 ·rw[au]at h1 h4;rw[hg i h1]at h3;have hx:s.getD i 0=32:=UInt8.toNat.inj (by show _=32;omega);refine .inr ⟨i,h1,h2,?_⟩
  have hs:s=s.take i++32::s.drop (i+1):=by
   rw[<-hx]
   conv=>lhs;rw[<-adE i s]
   congr 1
   rw[adl h1];simp[h1]
  have hn:(32:UInt8)∉s.drop (i+1):=by
   intro hm;obtain⟨j,hj,hx⟩:=aez.1 hm;rw[acK]at hj;have:=h4 (i+1+j) acB acB;rw[hg _ acB]at this;refine hne _ this ?_;rw[List.getElem_drop]at hx;rw[<-hx];have:i+1+j<s.length:=acB;simp[this]
  conv=>lhs;rw[hs]
  exact ue hn _
theorem EU:∀(l:Bs) (acc k u:Nat),acc<10^k->Lib.parseUint10 acc l=.ok u->u<10^(l.length+k)
 | [],acc,k,u,h,hu=>by
  simp[Lib.parseUint10]at hu
  simpa[<-hu]using h
 | c::r,acc,k,u,h,hu=>by
  simp only[Lib.parseUint10]at hu;split at hu
  ·rename_i hc;split at hu
   ·cases hu
   ·split at hu
    ·cases hu
    ·have:=EU r (acc*10+(c.toNat-48)) (k+1) u (by rw[aeg];omega) hu;rw[acH,show r.length+1+k=r.length+(k+1)by omega];exact this
  ·cases hu
theorem Ul {l:Bs} {u:Nat} (h:Lib.parseMag l=.ok u):u<10^l.length:=by
 unfold Lib.parseMag at h;split at h
 ·cases h
 exact EU l 0 0 u (by decide) h
theorem IM {l:Bs} {n:Int} (hl:l.length=4) (h:Lib.atoiAll l=.ok n):-999<=n/\n<=9999:=by
 cases l with
 | nil=>simp at hl
 | cons c r=>
  have hr:r.length=3:=by simpa using hl
  unfold Lib.atoiAll at h;simp only at h;split at h
  ·cases h
  ·cases h
  ·rename_i u hu;have hb:=Ul hu;split at h
   ·cases h
   ·split at h
    ·cases h
    ·cases h;by_cases hc:c.toNat=45
     ·rw[if_pos (.inr hc),hr]at hb;rw[if_pos hc];simp at hb;omega
     ·rw[if_neg hc]
      have:u<10^4:=by
       split at hb
       ·rw[hr]at hb;simp at hb |-;omega
       ·rw[hl]at hb;exact hb
      simp at this;omega
theorem MH {a b c d:UInt8} (ha:gz a=true) (hb:gz b=true) (hc:gz c=true) (hd:gz d=true):Lib.atoiAll [a,b,c,d]=.ok ((dv a*1000+dv b*100+dv c*10+dv d:Nat):Int):=by
 unfold gz at ha hb hc hd;simp only[acN,decide_eq_true_eq]at ha hb hc hd;have h1:¬a.toNat=43:=acB;have h2:¬a.toNat=45:=acB;unfold Lib.atoiAll;simp only[h1,h2,if_false,or_self]
 have hm:Lib.parseMag [a,b,c,d]=.ok (dv a*1000+dv b*100+dv c*10+dv d):=by
  unfold Lib.parseMag dv;rw[if_neg (by simp)];simp only[Lib.parseUint10];rw[if_pos ha,if_neg acB,if_neg acB,if_pos hb,if_neg acB,if_neg acB,if_pos hc,if_neg acB,if_neg acB,if_pos hd,if_neg acB,if_neg acB]
  congr 1
  omega
 rw[hm];simp only;have:dv a*1000+dv b*100+dv c*10+dv d<10000:=by unfold dv;omega
 rw[if_neg acB,if_neg acB]
theorem jm {t:TypeId} {st:St} (ht:t=245:=by rfl):(KQ.dies jM).ap (.panic (bC (.iface t (.agg #[])))) st:=by
 subst ht;exact of_eq_true lW
theorem uR (w s v r:Bs) (h:cq w s=some (v,r)) (hs:s.length<=4000000000000000000) (hw:w.length<=100) :
    Eng.Spec Tryz.prog 143 [(12007,.var [.str s])] [.aa 12007 0,.str w] (λh' x ar=>h'=[(12007,.var [.str r])]/\x=.str v/\ar=[.aa 12007 0,.str w]):=by
 refine Cod.XZ (λE R hN hR=>?_);unfold cq at h;split at h
 ·rename_i hc;obtain⟨h1,h2⟩:=hc;obtain⟨rfl,rfl⟩:=Prod.mk.inj (Option.some.inj h);generalize hq:cutP 10 s=q at *
  obtain⟨l,rest,ok⟩:=q;simp only at h1 h2;subst h1;have hcut:=sO s 10 acB;rw[hq]at hcut;have hp:=sP l (w++[32]);rw[if_pos h2,decide_eq_true h2]at hp;refine wW ?_;refine aj hcut rfl rfl ?_;simp(disch:=omega)only[go_sem,simprocAttr,nY];refine aj hp rfl rfl ?_;refine wW ?_;refine gG ?_;exact hR.wk rfl (.le vV) ⟨rfl,rfl,rfl⟩
 ·cases h
theorem yS (w s:Bs) (h:cq w s=none) (hs:s.length<=4000000000000000000) (hw:w.length<=100) :
    Eng.eA Tryz.prog 143 [(12007,.var [.str s])] [.aa 12007 0,.str w] jM:=by
 refine Cod.XY (λE hN=>?_);unfold cq at h;split at h
 ·cases h
 ·rename_i hc;generalize hq:cutP 10 s=q at *
  obtain⟨l,rest,ok⟩:=q;simp only[not_and]at hc;have hcut:=sO s 10 acB;rw[hq]at hcut;have hp:=sP l (w++[32]);refine wW ?_;refine aj hcut rfl rfl ?_;simp(disch:=omega)only[go_sem,simprocAttr,nY];refine aj hp rfl rfl ?_
  cases ok with
  | false=>
   refine wW ?_;refine gG ?_
   exact jm
  | true=>
   have hc:=hc rfl;rw[if_neg hc,decide_eq_false hc]at hp;refine wW ?_;refine gG ?_;exact jm
theorem D6 (s:Bs):iA s=if[10] <+: s then some (s.drop 1)else none:=by
 cases s with
 | nil=>simp[iA]
 | cons c r=>
  by_cases h:c=10
  ·subst h;simp[iA]
  ·have:¬[10] <+: c::r:=by
    rintro⟨t,ht⟩;exact h (List.cons.inj ht).1.symm
   simp[iA,h,this]
theorem X3 (s m:Bs) (h:iA s=some m):Eng.Spec Tryz.prog 145 [(12007,.var [.str s])] [.aa 12007 0] (λh' x ar=>h'=[(12007,.var [.str s])]/\x=.str m/\ar=[.aa 12007 0]):=by
 refine Cod.X4 (λE R hN hR=>?_);have hp:=sP s [10];rw[D6]at h;split at h
 ·rename_i hc;rw[if_pos hc,decide_eq_true hc]at hp;obtain rfl:=Option.some.inj h;refine wW ?_;refine aj hp rfl rfl ?_;refine wW ?_;exact hR.wk rfl (.le vV) ⟨rfl,rfl,rfl⟩
 ·cases h
theorem X2 (s:Bs) (h:iA s=none):Eng.eA Tryz.prog 145 [(12007,.var [.str s])] [.aa 12007 0] jM:=by
 refine Cod.X1 (λE hN=>?_);have hp:=sP s [10];rw[D6]at h;split at h
 ·cases h
 ·rename_i hc;rw[if_neg hc,decide_eq_false hc]at hp;refine wW ?_;refine aj hp rfl rfl ?_;refine wW ?_;exact jm
open Eng Ob
set_option maxRecDepth 10000
theorem aat {E:Env} {R:HP->AV->List AV->Prop} {w r l z:Bs} {i:Nat} {tm zn:Int} (hz:zoneO z=some zn) (hi:i<l.length) (hN:E.N<=1000000)
    (hR:cM (λh' x ar=>h'=[(12007,.var [.str r])]/\x=gL ⟨l.take i,tm,zn⟩/\ar=[.aa 12007 0,.str w]) R) :
    vcW Tryz.prog E Cod.FD (KQ.post [.cell 4 true 3] 2 R) ⟨[(4,.aa 11004 0),(5,.str l),(7,.int .i64 i),(8,.int .i64 tm),(10,.str z),(59,.bool false),(2000000,.aa 12007 0),(2000001,.str w)],[(12007,.var [.str r]),(11004,.var [.str [],.int .i64 0,.int .i64 0])]⟩:=by
 obtain⟨zz,z0,z1⟩:=zJ hz;have hzo:=zK zn z0 z1;unfold zoneO at hz;split at hz
 ·rename_i s a b c d;split at hz
  ·rename_i hd;obtain⟨da,db,dc,dd⟩:=hd;split at hz
   ·rename_i hc;obtain⟨hm,hs,_⟩:=hc;have hn:=Option.some.inj hz;have la:=lJ da;have lb:=lJ db;have lc:=lJ dc;have ld:=lJ dd;have hat:=MH da db dc dd;obtain⟨n,hn4⟩:∃n:Nat,dv a*1000+dv b*100+dv c*10+dv d=n:=⟨_,rfl⟩;rw[hn4]at hat;have ha:=pN [a,b,c,d] (by simp);obtain⟨m,hmm⟩:∃m:Nat,n/100*60+n%100=m:=⟨_,rfl⟩;have hm1:m=60*(dv a*10+dv b)+(dv c*10+dv d):=acB;rw[<-hm1]at hn;rw[zz]at hzo;refine wW ?_;refine dJ ha rfl ?_;rintro h' v as' ⟨rfl,hv⟩;unfold atoiA at hv;rw[hat]at hv;simp only at hv;subst hv;refine⟨rfl,rfl,?_⟩;have hmod:n%100<60:=acB;have e1:(n:Int)/100*60+(n:Int)%100=(m:Int):=acB;refine wW ?_;refine gG ?_;refine ah e1 ?_;refine ah @Eng.jn ?_;by_cases hs5:s=45
    ·subst hs5;rw[if_pos rfl]at hn;rw[<-hn]at hzo hR;have e45:((UInt8.toNat 45:Nat):Int)=45:=rfl;refine ah e45 ?_;refine dU hN ?_;refine wW ?_;rw[show(0:Int)-(m:Int) = -(m:Int)by omega];refine aj hzo rfl rfl ?_;refine wW ?_;exact hR.wk (h':=[(12007,.var [.str r])]) (r':=gL ⟨l.take i,tm,-(m:Int)⟩) (ar':=[.aa 12007 0,.str w]) rfl (.le (by simp(disch:=omega)only[go_sem,simprocAttr,gL])) ⟨rfl,rfl,rfl⟩
    ·rw[if_neg hs5]at hn;rw[<-hn]at hzo hR;have hs45:¬((s.toNat:Int)=45):=λe=>hs5 (UInt8.toNat.inj (by show _=45;omega));refine ah hs45 ?_;refine dU hN ?_;refine wW ?_;refine aj hzo rfl rfl ?_;refine wW ?_;exact hR.wk (h':=[(12007,.var [.str r])]) (r':=gL ⟨l.take i,tm,(m:Int)⟩) (ar':=[.aa 12007 0,.str w]) rfl (.le (by simp(disch:=omega)only[go_sem,simprocAttr,gL])) ⟨rfl,rfl,rfl⟩
   ·cases hz
  ·cases hz
 ·cases hz
theorem FH (w s l r:Bs) (sg:Sg) (h:cq w s=some (l,r)) (hl:signL l=some sg) (hs:s.length<=4000000000000000000) (hll:l.length<=140737488351232) (hw:w.length<=100) :
    Eng.Spec Tryz.prog 144 [(12007,.var [.str s])] [.aa 12007 0,.str w] (λh' x ar=>h'=[(12007,.var [.str r])]/\x=gL sg/\ar=[.aa 12007 0,.str w]):=by
 refine Cod.Yk (λE R hN hR=>?_);have hlen:=iU h;have hln:=uR w s l r h hs hw;obtain⟨sT,⟨t0,t1⟩,z0,z1⟩:=yY hl;unfold signL at hl;split at hl
 ·cases hl
 rename_i x z hx;split at hl
 ·cases hl
 rename_i wh t hw2;split at hl
 ·cases hl
 rename_i tm ht;split at hl
 ·cases hl
 rename_i zn hz;obtain rfl:=Option.some.inj hl;simp only at t0 t1 z0 z1;rcases uf l with⟨_,e⟩ | ⟨j,hj,hlj,e⟩
 ·rw[hx]at e;cases e
 rw[hx]at e;obtain⟨rfl,rfl⟩:=Prod.mk.inj (Option.some.inj e);rcases uf (l.take j)with⟨_,e⟩ | ⟨i,hi,hli,e⟩
 ·rw[hw2]at e;cases e
 rw[hw2]at e;obtain⟨rfl,rfl⟩:=Prod.mk.inj (Option.some.inj e);rw[acJ]at hi;obtain⟨n1,n2,_,_⟩:=Et ht;obtain⟨zz,_,_⟩:=zJ hz;have hb1:=ud l acB;have hb2:=ud (l.take j) (by rw[acJ];omega);rw[hlj]at hb1;rw[hli]at hb2;have ha1:=pN ((l.take j).drop (i+1)) (by rw[acK,acJ];omega);have hit:=oJ tm t0 t1;have e1:((j:Int)).toNat=j:=acB;have e2:((i:Int)+1).toNat=i+1:=acB;have e3:List.take (j-(i+1)) (List.drop (i+1) l)=(l.take j).drop (i+1):=by rw[List.drop_take]
 refine wW ?_;refine eD ?_;refine aN [(12007,.var [.str s])] hln vV nofun ?_;rintro h' v as' ⟨rfl,rfl,rfl⟩;refine⟨rfl,rfl,?_⟩;refine wW ?_;refine aj hb1 rfl rfl ?_;refine wW ?_;refine aj hb2 rfl rfl ?_;refine aV e2 e3 ?_;refine dJ ha1 rfl ?_;rintro h' v as' ⟨rfl,hv⟩;unfold atoiA at hv;rw[n2]at hv;simp only at hv;subst hv;refine⟨rfl,rfl,?_⟩;generalize hT:(l.take j).drop (i+1)=T at *
 generalize hZ:l.drop (j+1)=z at *
 have hz5:z.length=5:=by rw[<-zz];rfl
 refine wW ?_;refine gG ?_;refine jt (iv vV hit vV rfl rfl ?_);refine gP e2 e3 n1 hZ hz5 ?_;refine oA e2 e3 n1 hZ hz5 ?_;rw[List.take_take,ac1 acB]at hR;have T:=aat (w:=w) (r:=r) (l:=l) (i:=i) (tm:=tm) hz acB hN hR;have hd1:(List.drop 1 z).length=4:=by rw[acK];omega
 simp(disch:=omega)only[go_sem,simprocAttr]at T;exact T
theorem acq {z:Bs} (h:zoneO z=none) {n:Int} (h0:-5999<=n) (h1:n<=5999):¬gR n=z:=λe=>by
 have:=Hj n h0 h1;rw[e,h]at this;cases this
theorem Xj {n:Int} (h0:-999<=n) (h1:n<=9999) (h2:n.tmod 100<60):-639<=n.tdiv 100*60+n.tmod 100/\n.tdiv 100*60+n.tmod 100<=5999:=by
 have e:=Int.mul_tdiv_add_tmod n 100;by_cases hn:0<=n
 ·rw[adT hn,adU hn]at *
  omega
 ·obtain⟨m,rfl⟩:∃m:Int,n = -m:=⟨-n,acB⟩;rw[Int.neg_tdiv,Int.neg_tmod,adT acB,adU acB]at *
  omega
theorem Xi {n:Int} (h0:-999<=n) (h1:n<=9999):∃a b:Int,n.tdiv 100=a/\n.tmod 100=b /\ -9<=a/\a<=99 /\ -99<=b/\b<=99:=by
 refine⟨_,_,rfl,rfl,?_⟩;by_cases hn:0<=n
 ·rw[adT hn,adU hn]at *
  omega
 ·obtain⟨m,rfl⟩:∃m:Int,n = -m:=⟨-n,acB⟩;rw[Int.neg_tdiv,Int.neg_tmod,adT acB,adU acB]at *
  omega
theorem Aj (s:Bs):(∃n,Lib.atoiAll s=.ok n/\∀v,atoiA s v->v=.ab [.int .i64 n,.lit .nilIface])\/∀v,atoiA s v->∃n t p,v=.ab [.int .i64 n,.lit (.iface t p)]:=by
 unfold atoiA;cases Lib.atoiAll s
 ·rename_i n;exact .inl ⟨n,rfl,λv h=>h⟩
 exact .inr λv h=>h;exact .inr λv h=>h
theorem aas {E:Env} {w r l z:Bs} {i:Nat} {tm:Int} (hz:zoneO z=none) (hz5:z.length=5) (hi:i<l.length) (hl:l.length<=140737488351232) (hN:E.N<=1000000) :
    vcW Tryz.prog E Cod.FD (KQ.dies jM) ⟨[(4,.aa 11004 0),(5,.str l),(7,.int .i64 i),(8,.int .i64 tm),(10,.str z),(59,.bool false),(2000000,.aa 12007 0),(2000001,.str w)],[(12007,.var [.str r]),(11004,.var [.str [],.int .i64 0,.int .i64 0])]⟩:=by
 have ha:=pN (z.drop 1) (by rw[acK];omega);have hd1:(List.drop 1 z).length=4:=by rw[acK];omega
 refine wW ?_;refine dJ ha rfl ?_;rintro h' v as' ⟨rfl,hv⟩;rcases Aj (z.drop 1)with⟨n,hat,hn⟩ | hn
 ·obtain rfl:=hn v hv;refine⟨rfl,rfl,?_⟩;obtain⟨n0,n1⟩:=IM hd1 hat;have hq:=Xj n0 n1;obtain⟨a,b,ha0,hb0,a0,a1,b0,b1⟩:=Xi n0 n1;rw[ha0,hb0]at hq;by_cases hm:b<60
  ·obtain⟨q0,q1⟩:=hq hm;refine aV ha0 hb0 ?_;refine gX ha0 hb0 ?_;generalize a*60+b=zn at *
   obtain⟨s,r',rfl⟩:∃s r',z=s::r':=by
    cases z with
    | nil=>simp at hz5
    | cons s r'=>exact⟨s,r',rfl⟩
   have fin:∀m:Int,-5999<=m->m<=5999->vcW Tryz.prog E Cod.Yj (KQ.dies jM) ⟨[(4,.aa 11004 0),(10,.str (s::r')),(12,.aa 11012 0),(2000000,.aa 12007 0),(2000001,.str w)],[(11012,.var [.str (l.take i),.int .i64 tm,.int .i64 m]),(12007,.var [.str r]),(11004,.var [.str [],.int .i64 0,.int .i64 0])]⟩:=by
    intro m m0 m1;have hne:=acq hz m0 m1;refine wW ?_;refine aj (zK m m0 m1) rfl rfl ?_;refine wW ?_;exact jm
   by_cases hs5:s=45
   ·subst hs5;have e45:((UInt8.toNat 45:Nat):Int)=45:=rfl;have:=fin (0-zn) acB acB;refine aV @Eng.jn e45 ?_;exact rO hN _ (.le vV) this
   ·have hs45:¬((s.toNat:Int)=45):=λe=>hs5 (UInt8.toNat.inj (by show _=45;omega));have:=fin zn acB acB;refine aV @Eng.jn hs45 ?_;exact rO hN _ (.le vV) this
  ·refine aV ha0 hb0 ?_;refine gX ha0 hb0 ?_;exact jm
 ·obtain⟨n,t,p,rfl⟩:=hn v hv;refine⟨rfl,rfl,?_⟩;refine wW ?_;refine gG ?_;exact jm
theorem FG (w s:Bs) (h:cq w s=none) (hs:s.length<=4000000000000000000) (hw:w.length<=100) :
    Eng.eA Tryz.prog 144 [(12007,.var [.str s])] [.aa 12007 0,.str w] jM:=by
 refine Cod.FE (λE hN=>?_);have hd:=yS w s h hs hw;refine wW ?_;refine fk [(12007,.var [.str s])] hd vV ?_;exact vV
theorem FF (w s l r:Bs) (h:cq w s=some (l,r)) (hl:signL l=none) (hs:s.length<=4000000000000000000) (hll:l.length<=140737488351232) (hw:w.length<=100) :
    Eng.eA Tryz.prog 144 [(12007,.var [.str s])] [.aa 12007 0,.str w] jM:=by
 refine Cod.FE (λE hN=>?_);have hlen:=iU h;have hln:=uR w s l r h hs hw;have hb1:=ud l acB;refine wW ?_;refine eD ?_;refine aN [(12007,.var [.str s])] hln vV nofun ?_;rintro h' v as' ⟨rfl,rfl,rfl⟩;refine⟨rfl,rfl,?_⟩;unfold signL at hl;rcases uf l with⟨hlj,e⟩ | ⟨j,hj,hlj,e⟩
 ·rw[hlj]at hb1;refine wW ?_;refine aj hb1 rfl rfl ?_;refine wW ?_;exact jm
 rw[hlj]at hb1;rw[e]at hl;simp only at hl;have hb2:=ud (l.take j) (by rw[acJ];omega);have e1:((j:Int)).toNat=j:=acB;rcases uf (l.take j)with⟨hli,e'⟩ | ⟨i,hi,hli,e'⟩
 ·rw[hli]at hb2;refine wW ?_;refine aj hb1 rfl rfl ?_;refine wW ?_;refine aj hb2 rfl rfl ?_;refine wW ?_;exact jm
 rw[hli]at hb2;rw[e']at hl;simp only at hl;rw[acJ]at hi;have e2:((i:Int)+1).toNat=i+1:=acB;have e3:List.take (j-(i+1)) (List.drop (i+1) l)=(l.take j).drop (i+1):=by rw[List.drop_take]
 have ha1:=pN ((l.take j).drop (i+1)) (by rw[acK,acJ];omega);refine wW ?_;refine aj hb1 rfl rfl ?_;refine wW ?_;refine aj hb2 rfl rfl ?_;refine aV e2 e3 ?_;refine dJ ha1 rfl ?_;rintro h' v as' ⟨rfl,hv⟩;generalize hT:(l.take j).drop (i+1)=T at *
 generalize hZ:l.drop (j+1)=z at *
 rcases Aj T with⟨tm,hat,hn⟩ | hn
 ·obtain rfl:=hn v hv;refine⟨rfl,rfl,?_⟩;have tb:=Lib.atoiAll_bounds hat;have hit:=oJ tm tb.1 tb.2;by_cases hit2:Lib.itoa tm=T
  ·have hnum:numI T=some tm:=by unfold numI;rw[hat];simp only;rw[if_pos hit2]
   rw[hnum]at hl;simp only at hl
   have hzo:zoneO z=none:=by
    cases hz:zoneO z with
    | none=>rfl
    | some q=>rw[hz]at hl;cases hl
   by_cases hz5:z.length=5
   ·have T:=aas (w:=w) (r:=r) (l:=l) (i:=i) (tm:=tm) hzo hz5 acB acB hN;have hd1:(List.drop 1 z).length=4:=by rw[acK];omega
    simp(disch:=omega)only[go_sem,simprocAttr]at T;refine wW ?_;refine gG ?_;refine jt (iv vV hit vV rfl rfl ?_);refine gP e2 e3 hit2 hZ hz5 ?_;refine oA e2 e3 hit2 hZ hz5 ?_;exact T
   ·refine wW ?_;refine gG ?_;refine jt (iv vV hit vV rfl rfl ?_);refine gP e2 e3 hit2 hZ hz5 ?_;refine oA e2 e3 hit2 hZ hz5 ?_;exact jm
  ·refine wW ?_;refine gG ?_;refine jt (iv vV hit vV rfl rfl ?_);refine cW e2 e3 hit2 hZ ?_;refine tt e2 e3 hit2 hZ ?_;exact jm
 ·obtain⟨n,t,p,rfl⟩:=hn v hv;refine⟨rfl,rfl,?_⟩;refine wW ?_;refine gG ?_;exact jm
def parts (c:bW) (p:AV):AV:=.agg [.str c.tree,p,.str c.cQ.bZ,.int .i64 c.cQ.time,.int .i64 c.cQ.cv,.str c.cR.bZ,.int .i64 c.cR.time,.int .i64 c.cR.cv,.str c.msg]
def Wn (s:Bs) (x:AV):Prop:=(∃c,parseL s=some c/\x=.ab [eC c,.int .i64 0])\/(parseL s=none/\∃c,∃p:AV,(p=.an\/∃ps:List Bs,p=.ro 1 (ps.map .str))/\x=.ab [parts c p,.int .i64 3])
def parseT (t s1:Bs):Option bW:=
 match parL s1 with
 | none=>none
 | some (ps,s2)=>match cq gO s2 with
  | none=>none
  | some (a,s3)=>match signL a with
   | none=>none
   | some sa=>match cq ik s3 with
    | none=>none
    | some (b,s4)=>match signL b with
     | none=>none
     | some sb=>match iA s4 with
      | none=>none
      | some m=>some ⟨t,ps,sa,sb,m⟩
theorem Wa {s t s1:Bs} (h:cq gp s=some (t,s1)):parseL s=parseT t s1:=by
 unfold parseL;rw[h];rfl
def lZ (t:Bs) (ps:List Bs) (s2:Bs):Option bW:=
 match cq gO s2 with
  | none=>none
  | some (a,s3)=>match signL a with
   | none=>none
   | some sa=>match cq ik s3 with
    | none=>none
    | some (b,s4)=>match signL b with
     | none=>none
     | some sb=>match iA s4 with
      | none=>none
      | some m=>some ⟨t,ps,sa,sb,m⟩
theorem Wf {t s1:Bs} (h:parL s1=none):parseT t s1=none:=by unfold parseT;rw[h]
theorem We {t s1 s2:Bs} {ps:List Bs} (h:parL s1=some (ps,s2)):parseT t s1=lZ t ps s2:=by unfold parseT;rw[h];rfl
theorem Un (q:Option (List Bs×Bs)):q=q.map λq=>([]++q.1,q.2):=by cases q<;>rfl
structure vQ (s:Bs):Prop where
 len:s.length<=4000000000000000000
 par:∀t s1 s2 ps,cq gp s=some (t,s1)->parL s1=(parL s2).map (λq=>(ps++q.1,q.2))->ps.length+s2.length<=s1.length->ps.length<=4000000000000
 F4:∀t s1 s2 ps al s3,cq gp s=some (t,s1)->parL s1=some (ps,s2)->cq gO s2=some (al,s3)->al.length<=140737488351232/\∀bl s4,cq ik s3=some (bl,s4)->bl.length<=140737488351232
theorem V6 {s:Bs} (hs:s.length<=1000000000000):vQ s where
 len:=acB
 par:=λt s1 s2 ps h _ hl=>by have:=iU h;omega
 F4:=λt s1 s2 ps al s3 h hp ha=>by
  have h1:=iU h;have h2:=(yA _ (acG _) hp).1;have h3:=iU ha;have:s2.length<=s1.length:=by rw[h2];simp
  exact⟨acB,λbl s4 hb=>by have:=iU hb;omega⟩
theorem Wl (s:Bs) (hB:vQ s):Eng.Spec Tryz.prog 115 [] [.str s] (λh x _=>h=[]/\Wn s x):=by
 have hs:=hB.len;refine Cod.Wm PD xg (λE0 R hN0 hR=>?_);refine ah @G0 ?_;refine SD (by simp(disch:=omega)only[go_sem,simprocAttr];rfl) (λE hN=>?_)
 cases hT:cq gp s with
 | none=>
  have hno:parseL s=none:=by unfold parseL;rw[hT]
  have hd:=yS gp s hT hs (by decide);unfold gp at hd;refine wW ?_;refine fk [(12007,.var [.str s])] hd vV ?_;refine wW ?_
  exact hR.wk (h':=[]) (r':=.ab [parts ⟨[],[],⟨[],0,0⟩,⟨[],0,0⟩,[]⟩ .an,.int .i64 3]) (ar':=[.undef]) rfl (.le (by simp(disch:=omega)only[go_sem,simprocAttr,parts])) ⟨rfl,.inr ⟨hno,_,_,.inl rfl,rfl⟩⟩
 | some q=>
  obtain⟨t,s1⟩:=q;have hln:=uR gp s t s1 hT hs (by decide);have hlen:=iU hT;unfold gp at hln hlen;have hPT:=Wa hT;refine wW ?_;refine eD ?_;refine aN [(12007,.var [.str s])] hln vV nofun ?_;rintro h' v as' ⟨rfl,rfl,rfl⟩;refine⟨rfl,rfl,?_⟩;refine wW ?_
  refine aJ hN (λa:List Bs×Bs=>⟨[(2,.aa 12002 0),(3,.aa 12003 0),(4,.aa 12007 0),(2000001,.aa 12003 0)],
   [(12007,.var [.str a.2]),(12003,.var [.int .i64 0]),(12002,.var [.str t,.sl 12021 0 a.1.length,.str [],.int .i64 0,.int .i64 0,.str [],.int .i64 0,.int .i64 0,.str []]),(12021,.arr 1 (a.1.map .str))]⟩)
   (λa=>parL s1=(parL a.2).map (λq=>(a.1++q.1,q.2))/\a.1.length+a.2.length<=s1.length) (λa=>a.2.length) ([],s1) (.iW 12002 1 12021 1 _ (by simp(disch:=omega)only[go_sem,simprocAttr];rfl) rfl rfl (.le vV)) ⟨Un _,by simp⟩ ?_
  rintro⟨ps,s2⟩ R1 ⟨hpar,hle⟩ hR1;simp only at hpar hle;simp only[acH,ac9]at hlen;have hps:ps.length<=4000000000000:=hB.par _ _ _ _ hT hpar hle;have hpre:=PV s2 iY;unfold iY at hpre
  have dead:parseL s=none->∀(m:Bs) (x y:Sg),R [(12003,.var [.int .i64 3]),(12002,.var [.str t,.sl 12021 0 ps.length,.str x.bZ,.int .i64 x.time,.int .i64 x.cv,.str y.bZ,.int .i64 y.time,.int .i64 y.cv,.str m]),(12021,.arr 1 (ps.map .str))] (.ab [.agg [.str t,.sl 12021 0 ps.length,.str x.bZ,.int .i64 x.time,.int .i64 x.cv,.str y.bZ,.int .i64 y.time,.int .i64 y.cv,.str m],.int .i64 3]) [.undef]:=by
   intro hno m x y;exact hR.wk (h':=[]) (r':=.ab [parts ⟨t,ps,x,y,m⟩ (.ro 1 (ps.map .str)),.int .i64 3]) (ar':=[.undef]) rfl (.bn 12021 (.le (by simp(disch:=omega)only[go_sem,simprocAttr,parts]))) ⟨rfl,.inr ⟨hno,_,_,.inr ⟨ps,rfl⟩,rfl⟩⟩
  by_cases hp:iY <+: s2
  ·rw[decide_eq_true (by exact hp)]at hpre
   cases hl:cq fP s2 with
   | none=>
    have hno:parseL s=none:=by rw[hPT];exact Wf (by rw[hpar,EN hp hl];rfl)
    have dead:=dead hno [] ⟨[],0,0⟩ ⟨[],0,0⟩;have hd:=yS fP s2 hl acB (by decide);unfold fP at hd;refine wW ?_;refine aj hpre rfl rfl ?_;refine wW ?_;refine H8 (by decide) ?_;refine wW ?_
    (repeat' (with_reducible refine And.intro ?_ ?_))<;>refine BD [(12007,.var [.str s2])] hd vV ?_<;>(simp(disch:=omega)only[go_sem,simprocAttr];exact dead)
   | some q=>
    obtain⟨pv,r⟩:=q;have hln:=uR fP s2 pv r hl acB (by decide);have hlen2:=iU hl;unfold fP at hln hlen2;refine wW ?_;refine aj hpre rfl rfl ?_;refine wW ?_;refine H9 ?_;refine wW ?_
    constructor<;>refine aN [(12007,.var [.str s2])] hln vV nofun ?_<;>(
     rintro h' v as' ⟨rfl,rfl,rfl⟩;refine⟨rfl,rfl,?_⟩;refine wW ?_;refine hR1 (ps++[pv],r) _ (by simp only;omega) ⟨?_,by simp only[acD,acH,ac9];omega⟩ (.le ?_)
     ·rw[hpar,yy hp hl,Option.map_map]
      congr 1;funext q;simp
     ·simp(disch:=omega)only[go_sem,simprocAttr])
  ·rw[decide_eq_false (by exact hp)]at hpre;have hpar:parL s1=some (ps,s2):=by rw[hpar,yz hp];simp
   have hPU:parseL s=lZ t ps s2:=by rw[hPT];exact We hpar
   refine wW ?_;refine aj hpre rfl rfl ?_;refine wW ?_
   cases ha:cq gO s2 with
   | none=>
    have dead:=dead (by rw[hPU];unfold lZ;rw[ha]) [] ⟨[],0,0⟩ ⟨[],0,0⟩;have hd:=FG gO s2 ha acB (by decide);unfold gO at hd;refine fk [(12007,.var [.str s2])] hd vV ?_;refine wW ?_
    exact dead
   | some q=>
    obtain⟨al,s3⟩:=q;have la:=iU ha;obtain⟨hall,hbll⟩:=hB.F4 _ _ _ _ _ _ hT hpar ha
    cases hsa:signL al with
    | none=>
     have dead:=dead (by rw[hPU];unfold lZ;rw[ha];simp only;rw[hsa]) [] ⟨[],0,0⟩ ⟨[],0,0⟩;have hd:=FF gO s2 al s3 ha hsa acB hall (by decide);unfold gO at hd;refine fk [(12007,.var [.str s2])] hd vV ?_;refine wW ?_
     exact dead
    | some sa=>
     have hok:=FH gO s2 al s3 sa ha hsa acB hall (by decide);unfold gO at hok;refine eD ?_;refine aN [(12007,.var [.str s2])] hok vV nofun ?_;rintro h' v as' ⟨rfl,rfl,rfl⟩;refine⟨rfl,rfl,?_⟩;simp(disch:=omega)only[go_sem,simprocAttr,gL]
     cases hb:cq ik s3 with
     | none=>
      have dead:=dead (by rw[hPU];unfold lZ;rw[ha];simp only;rw[hsa];simp only;rw[hb]) [] sa ⟨[],0,0⟩;have hd:=FG ik s3 hb acB (by decide);unfold ik at hd;refine fk [(12007,.var [.str s3])] hd vV ?_;refine wW ?_
      exact dead
     | some q=>
      obtain⟨bl,s4⟩:=q;have lb:=iU hb;have hbl:=hbll _ _ hb
      cases hsb:signL bl with
      | none=>
       have dead:=dead (by rw[hPU];unfold lZ;rw[ha];simp only;rw[hsa];simp only;rw[hb];simp only;rw[hsb]) [] sa ⟨[],0,0⟩;have hd:=FF ik s3 bl s4 hb hsb acB hbl (by decide);unfold ik at hd;refine fk [(12007,.var [.str s3])] hd vV ?_;refine wW ?_
       exact dead
      | some sb=>
       have hok:=FH ik s3 bl s4 sb hb hsb acB hbl (by decide);unfold ik at hok;refine eD ?_;refine aN [(12007,.var [.str s3])] hok vV nofun ?_;rintro h' v as' ⟨rfl,rfl,rfl⟩;refine⟨rfl,rfl,?_⟩;simp(disch:=omega)only[go_sem,simprocAttr,gL]
       cases hm:iA s4 with
       | none=>
        have dead:=dead (by rw[hPU];unfold lZ;rw[ha];simp only;rw[hsa];simp only;rw[hb];simp only;rw[hsb];simp only;rw[hm]) [] sa sb;have hd:=X2 s4 hm;refine fk [(12007,.var [.str s4])] hd vV ?_;refine wW ?_
        exact dead
       | some m=>
        have hyes:parseL s=some ⟨t,ps,sa,sb,m⟩:=by rw[hPU];unfold lZ;rw[ha];simp only;rw[hsa];simp only;rw[hb];simp only;rw[hsb];simp only;rw[hm]
        have hok:=X3 s4 m hm;refine eD ?_;refine aN [(12007,.var [.str s4])] hok vV nofun ?_;rintro h' v as' ⟨rfl,rfl,rfl⟩;refine⟨rfl,rfl,?_⟩;refine wW ?_;exact hR.wk (h':=[]) (r':=.ab [eC ⟨t,ps,sa,sb,m⟩,.int .i64 0]) (ar':=[.undef]) rfl (.bn 12021 (.le (by simp(disch:=omega)only[go_sem,simprocAttr,eC]))) ⟨rfl,.inl ⟨_,hyes,rfl⟩⟩
def c0:bW:=⟨[],[],⟨[],0,0⟩,⟨[],0,0⟩,[]⟩
def gH (s:Bs):Int:=match parseL s with | none=>3 | some c=>aY c
theorem Fo {s:Bs}:gH s=0↔∃c,parseL s=some c/\aY c=0:=by
 unfold gH
 cases parseL s with
 | none=>simp
 | some c=>simp
def Xs (s:Bs) (x:AV):Prop:=(∃c,parseL s=some c/\aY c=0/\x=.ab [eC c,.int .i64 0])\/(gH s≠0/\x=.ab [parts c0 .an,.int .i64 (gH s)])
theorem Wc {s:Bs} {c:bW} (hs:s.length<=1000000000000) (h:parseL s=some c):pA c:=by
 obtain⟨e,_⟩:=Wb h
 have hp:∀(l:List Bs),l.length<=(parT l).length/\∀p∈l,p.length<=(parT l).length:=by
  intro l
  induction l with
  | nil=>simp
  | cons x r ih=>
   simp only[parT,acD,acH];refine⟨acB,λp hp=>?_⟩;rcases acW.1 hp with rfl | hp;omega
   ·have:=ih.2 p hp;omega
 have hsg:∀g:Sg,g.bZ.length<=(ed g).length:=by intro g;unfold ed;simp
 obtain⟨p1,p2⟩:=hp c.parents;have s1:=hsg c.cQ;have s2:=hsg c.cR;have hl:s.length=(aU c).length:=by rw[e]
 unfold aU at hl;simp only[acD,acH]at hl;refine⟨acB,⟨acB,λp hp=>?_⟩,acB,acB,acB⟩;have:=p2 p hp;omega
theorem LH (s:Bs) (hB:vQ s) (hz:∀c,parseL s=some c->pA c):Eng.Spec Tryz.prog 72 [] [.str s] (λh x _=>h=[]/\Xs s x):=by
 refine Cod.LI (λE R hN hR=>?_);refine wW ?_;refine dJ (Wl s hB) rfl ?_;rintro h' v as' ⟨rfl,hv⟩;rcases hv with⟨c,hc,rfl⟩ | ⟨hno,c,p,hp,rfl⟩
 ·refine⟨rfl,rfl,?_⟩;have hck:=Be c (hz c hc);have hrc:gH s=aY c:=by unfold gH;rw[hc]
  unfold eC at hck;simp(disch:=omega)only[go_sem,simprocAttr,eC,Eng.jn];refine aj hck rfl rfl ?_;refine ah @Eng.jn ?_;by_cases h0:aY c=0
  ·refine dU hN ?_;refine ah h0 ?_;exact hR.wk (h':=[]) (r':=.ab [eC c,.int .i64 0]) (ar':=[.undef]) rfl (.le (by simp(disch:=omega)only[go_sem,simprocAttr,eC])) ⟨rfl,.inl ⟨c,hc,h0,rfl⟩⟩
  ·refine dU hN ?_;refine ah h0 ?_;exact hR.wk (h':=[]) (r':=.ab [parts c0 .an,.int .i64 (gH s)]) (ar':=[.undef]) rfl (.le (by simp(disch:=omega)only[go_sem,simprocAttr,parts,c0,hrc])) ⟨rfl,.inr ⟨by rw[hrc];exact h0,rfl⟩⟩
 ·have hrc:gH s=3:=by unfold gH;rw[hno]
  have fin:∀h0 a,R h0 (.ab [parts c0 .an,.int .i64 3]) [a]:=λh0 a=>hR.wk (h':=[]) (r':=.ab [parts c0 .an,.int .i64 (gH s)]) (ar':=[a]) rfl (.le (eY hrc)) ⟨rfl,.inr ⟨by rw[hrc];decide,rfl⟩⟩;unfold parts c0 at fin;rcases hp with rfl | ⟨ps,rfl⟩
  ·refine⟨rfl,rfl,?_⟩;simp(disch:=omega)only[go_sem,simprocAttr,parts,Eng.jn];refine dU hN ?_;refine wW ?_;exact fin _ _
  ·refine⟨rfl,rfl,?_⟩;simp(disch:=omega)only[go_sem,simprocAttr,parts,Eng.jn];refine dU hN ?_;refine wW ?_;exact fin _ _
theorem F7 (s:Sg) (h:kr s):(ed s).length<=s.bZ.length+27:=by
 have hl:=lU s.time h.1.2 h.1.1;unfold ed;simp only[acD,acH,Hk];omega
theorem Bt (s:Sg) (h:kr s) (hs:s.bZ.length<=140737488351232):aw Tryz.prog 21 [gL s] (.str (ed s)):=by
 refine Cod.LR (λE R hN hR=>?_);have hl:=lU s.time h.1.2 h.1.1;have hz:=Hk s.cv;unfold ed at hR;simp(disch:=omega)only[go_sem,simprocAttr,gL];refine aj (oJ s.time h.1.1 h.1.2) rfl rfl ?_;refine wW ?_;refine aj (zK s.cv h.2.1 h.2.2) rfl rfl ?_;refine wW ?_;have e:s.bZ++[32]++Lib.itoa s.time++[32]++gR s.cv=s.bZ++32::(Lib.itoa s.time++32::gR s.cv):=by simp
 rw[e];exact hR.wk (h':=[]) (ar':=[.undef]) rfl (.le vV) ⟨rfl,rfl⟩
def xv (c:bW):AV:=.ab [.str (if aY c=0 then aU c else[]),.int .i64 (aY c)]
theorem ES:∀(a b:List Bs),parT (a++b)=parT a++parT b
 | [],b=>by simp[parT]
 | p::ps,b=>by
  simp only[acZ,parT,ES ps b];simp
theorem ET (M:Nat):∀(n:Nat) (ps:List Bs),ps.length<=n->(∀p∈ps,p.length<=M)->(parT ps).length<=n*(M+8)
 | n,[],_,_=>by simp[parT]
 | 0,p::ps,hn,_=>by simp at hn
 | n+1,p::ps,hn,h=>by
  have h1:=ET M n ps (by simpa using hn) (λx hx=>h x (acV _ hx));have h2:=h p (acU ..);simp only[parT,acD,acH,adS];have:fP.length=6:=rfl;generalize n*(M+8)=z at *
  omega
theorem V8 (M:Nat) (ps:List Bs) (hn:ps.length<=16) (h:∀p∈ps,p.length<=M):(parT ps).length<=16*M+128:=by
 have:=ET M 16 ps hn h;omega
theorem V9 (ps:List Bs) {k:Nat} (h:k<ps.length):parT (ps.take (k+1))=parT (ps.take k)++(fP++32::(ps.getD k []++[10])):=by
 rw[zm [] ps h,ES];simp[parT]
theorem K8 {c:bW} (hs:pA c) (h:aY c=0):(ed c.cQ).length<=140737488351259/\(ed c.cR).length<=140737488351259/\∀k,(parT (c.parents.take k)).length<=2251799813619840:=by
 obtain⟨s1,⟨s2,s3⟩,s4,s5,s6⟩:=hs;obtain⟨h1,_,_,h2,h3⟩:=wF h;have l1:=F7 c.cQ (rq h2);have l2:=F7 c.cR (rq h3);refine⟨acB,acB,λk=>?_⟩;have hl:(c.parents.take k).length<=16:=by rw[acJ];omega
 have:=V8 140737488351232 (c.parents.take k) hl (λp hp=>s3 p (ad0 hp));omega
theorem OH (c:bW) (hs:pA c):aw Tryz.prog 7 [eC c] (xv c):=by
 have hck:=Be c hs;have hs':=hs;obtain⟨s1,⟨s2,s3⟩,s4,s5,s6⟩:=hs;refine Cod.OI (λE R hN hR=>?_);unfold xv at hR;unfold eC at hck;simp(disch:=omega)only[go_sem,simprocAttr,eC];refine aj hck rfl rfl ?_;by_cases h0:aY c=0
 ·obtain⟨z1,z2,z3⟩:=K8 hs' h0;obtain⟨_,_,_,h2,h3⟩:=wF h0;have ret:∀h0 a,R h0 (.ab [.str (aU c),.int .i64 0]) [a]:=λh1 a=>hR.wk (h':=[]) (r':=.ab [.str (aU c),.int .i64 0]) (ar':=[a]) rfl (.le vV) ⟨rfl,by rw[if_pos h0,h0]⟩;have ha:=Bt c.cQ (rq h2) acB;have hb:=Bt c.cR (rq h3) acB;unfold gL at ha hb;refine ah h0 ?_;refine aJ hN (λk:Nat=>⟨[(1,.aa 6001 0),(5,.str (gp++32::(c.tree++10::parT (c.parents.take k)))),(18,.ro 1 (c.parents.map .str)),(19,.int .i64 c.parents.length),(20,.int .i64 k)],[(6001,.var [.str c.tree,.ro 1 (c.parents.map .str),.str c.cQ.bZ,.int .i64 c.cQ.time,.int .i64 c.cQ.cv,.str c.cR.bZ,.int .i64 c.cR.time,.int .i64 c.cR.cv,.str c.msg])]⟩) (λk=>k<=c.parents.length) (λk=>c.parents.length-k) 0 (.le (by simp(disch:=omega)only[go_sem,simprocAttr];rfl)) acB ?_;rintro k R1 hk hR1;have hwt:gp.length=4:=rfl;have hwp:fP.length=6:=rfl;have z3k:=z3 k;by_cases hlt:k<c.parents.length
  ·have hp:=s3 (c.parents.getD k []) (xz [] _ hlt);have z3s:=z3 (k+1);have hsn:=V9 c.parents hlt
   have e:gp++32::(c.tree++10::parT (c.parents.take k))++112::97::114::101::110::116::32::(c.parents.getD k []++[10])=gp++32::(c.tree++10::parT (c.parents.take (k+1))):=by
    rw[hsn];simp[fP]
   refine ah e ?_;exact hR1 (k+1) _ acB acB (.le vV)
  ·obtain rfl:k=c.parents.length:=acB;rw[acF acB]at z3k |-;refine wW ?_;refine aj ha rfl rfl ?_;refine wW ?_;refine aj hb rfl rfl ?_;refine wW ?_;have e:gp++32::(c.tree++10::parT c.parents)++[97,117,116,104,111,114,32]++ed c.cQ++[10,99,111,109,109,105,116,116,101,114,32]++ed c.cR++[10,10]++c.msg=aU c:=by simp[aU,gO,ik]
   rw[e];exact ret _ _
 ·refine ah h0 ?_;exact hR.wk (h':=[]) (r':=.ab [.str [],.int .i64 (aY c)]) (ar':=[.undef]) rfl (.le vV) ⟨rfl,by rw[if_neg h0]⟩
end Go.Proofs.YtgghhaahnpbnmaaGreatDoor.Cm
