/- The proof, part 19 of 51. -/
import Derived.Test.YtgghhaahnpbnmaaGreatDoorCartularyWalksB
import Derived.KernelRfl
set_option linter.all false
namespace Go.Proofs.YtgghhaahnpbnmaaGreatDoor.Gr
set_option maxRecDepth 10000
def dM (n:Nat):Nat:=if n=0 then 1074 else 52-n.log2
def Xo (n:Nat):Bool:=FloatKind.f64.format.read (FloatKind.f64.nearest (n:Int))==.number false (n*2^dM n) (-(dM n:Int))
theorem Xp:(List.range 201).all Xo=true:=by kernel_rfl
theorem tc {n:Nat} (h:n<=200):FloatKind.f64.format.read (FloatKind.f64.nearest (n:Int))=.number false (n*2^dM n) (-(dM n:Int)):=
 eq_of_beq (acI.1 Xp n (adI.2 acB))
theorem NQ {m n:Nat} (hm:m<=200) (hn:n<=200):FloatKind.f64.format.order (FloatKind.f64.nearest (m:Int)) (FloatKind.f64.nearest (n:Int))=some (compare (m:Int) (n:Int)):=by
 unfold Ieee.Format.order;rw[tc hm,tc hn];simp only[Ieee.Datum.order,Ieee.signed,acT,if_false,adj];generalize dM m=a;generalize dM n=b;obtain⟨K,hK⟩:∃K,K=max a b:=⟨_,rfl⟩;have h1:min (-(a:Int)) (-(b:Int)) = -(K:Int):=acB;rw[h1];have h2:(-(a:Int) - -(K:Int)).toNat=K-a:=acB;have h3:(-(b:Int) - -(K:Int)).toNat=K-b:=acB;rw[h2,h3,aeH,aeH,<-ad9,<-ad9,show a+(K-a)=K by omega,show b+(K-b)=K by omega];have hp:0<2^K:=aeC acB
 congr 1
 simp only[compare,compareOfLessAndEq]
 have e1:((m*2^K:Nat):Int)<((n*2^K:Nat):Int)↔(m:Int)<(n:Int):=by
  rw[Int.ofNat_lt,Int.ofNat_lt];exact Nat.mul_lt_mul_right hp
 have e2:((m*2^K:Nat):Int)=((n*2^K:Nat):Int)↔(m:Int)=(n:Int):=by
  rw[Int.ofNat_inj,Int.ofNat_inj];exact Nat.mul_right_cancel_iff hp
 simp only[e1,e2]
theorem Ck {a b:Int} (ha:0<=a/\a<=200) (hb:0<=b/\b<=200):FloatKind.f64.format.order (FloatKind.f64.nearest a) (FloatKind.f64.nearest b)=some (compare a b):=by
 obtain⟨m,rfl⟩:=adg ha.1;obtain⟨n,rfl⟩:=adg hb.1;exact NQ acB acB
theorem xh {a b:Int} (ha:0<=a/\a<=200) (hb:0<=b/\b<=200):(FloatKind.f64.format.order (FloatKind.f64.nearest a) (FloatKind.f64.nearest b)==some .eq)=decide (a=b):=by
 rw[Ck ha hb];simp only[compare,compareOfLessAndEq];split
 ·rename_i h;rw[decide_eq_false acB];rfl
 ·split
  ·rename_i h;rw[decide_eq_true h];rfl
  ·rename_i h;rw[decide_eq_false h];rfl
theorem NP {a b:Int} (ha:0<=a/\a<=200) (hb:0<=b/\b<=200):(FloatKind.f64.format.order (FloatKind.f64.nearest a) (FloatKind.f64.nearest b)==some .lt)=decide (a<b):=by
 rw[Ck ha hb];simp only[compare,compareOfLessAndEq];split
 ·rename_i h;rw[decide_eq_true h];rfl
 ·split
  ·rename_i h;rw[decide_eq_false acB];rfl
  ·rename_i h;rw[decide_eq_false acB];rfl
def vA (K d:Nat):Bool:=FloatKind.f64.format.write (.number false (d*2^K) (-(K:Int)))==FloatKind.f64.format.write (.number false d 0) &&
 FloatKind.f64.format.write (.number true (d*2^K) (-(K:Int)))==FloatKind.f64.format.write (.number true d 0)
theorem abw:((List.range 201).all λd=>vA 1074 d&&(List.range 8).all λj=>vA (45+j) d)=true:=by kernel_rfl
def DC (n:Nat):Bool:=dM n==1074||(decide (45<=dM n)&&decide (dM n<53))
theorem RH:(List.range 201).all DC=true:=by kernel_rfl
theorem DD {n:Nat} (h:n<=200):dM n=1074\/(45<=dM n/\dM n<53):=by
 have:=acI.1 RH n (adI.2 acB);simpa[DC]using this
theorem NS {K d:Nat} (s:Bool) (hd:d<=200) (hK:K=1074\/(45<=K/\K<53)):FloatKind.f64.format.write (.number s (d*2^K) (-(K:Int)))=FloatKind.f64.format.write (.number s d 0):=by
 have h:=acI.1 abw d (adI.2 acB);rw[acN]at h
 have hw:vA K d=true:=by
  rcases hK with rfl | hK;exact h.1
  ·have:=acI.1 h.2 (K-45) (adI.2 acB)
   rwa[show 45+(K-45)=K by omega]at this
 unfold vA at hw;rw[acN]at hw;cases s;exact eq_of_beq hw.1;exact eq_of_beq hw.2
theorem NR {m n:Nat} (hm:m<=200) (hn:n<=200):FloatKind.f64.format.sub (FloatKind.f64.nearest (m:Int)) (FloatKind.f64.nearest (n:Int))=some (FloatKind.f64.nearest ((m:Int)-(n:Int))):=by
 have ka:=DD hm;have kb:=DD hn;unfold Ieee.Format.sub;rw[tc hm,tc hn];simp only[Ieee.Datum.opposite,Ieee.Datum.sum,Ieee.signed,acT,if_false,adj,adz,if_true];generalize dM m=a at *
 generalize dM n=b at *
 obtain⟨K,hK⟩:∃K,K=max a b:=⟨_,rfl⟩;have h1:min (-(a:Int)) (-(b:Int)) = -(K:Int):=acB;rw[h1];have h2:(-(a:Int) - -(K:Int)).toNat=K-a:=acB;have h3:(-(b:Int) - -(K:Int)).toNat=K-b:=acB;rw[h2,h3,aeH,aeH,<-ad9,<-ad9,show a+(K-a)=K by omega,show b+(K-b)=K by omega];have hp:0<2^K:=aeC acB;have hKK:K=1074\/(45<=K/\K<53):=acB
 have e:((m*2^K:Nat):Int) + -((n*2^K:Nat):Int)=((m:Int)-(n:Int))*((2^K:Nat):Int):=by
  rw[aeX,aeX,Int.sub_mul];rfl
 rw[e];obtain⟨T,hT⟩:∃T:Nat,T=2^K:=⟨_,rfl⟩;rw[Int.natAbs_mul,Int.natAbs_natCast]
 have hs:(if((m:Int)-(n:Int))*((2^K:Nat):Int)=0 then(false&&true:Bool)else decide (((m:Int)-(n:Int))*((2^K:Nat):Int)<0))=decide ((m:Int)-(n:Int)<0):=by
  rw[<-hT]at hp |-;have hp':(0:Int)<(T:Int):=acB;by_cases h0:(m:Int)-(n:Int)=0
  ·rw[h0];simp
  ·rw[if_neg (by rw[Int.mul_eq_zero];omega)];rw[decide_eq_decide];constructor
   ·intro h;rcases Int.lt_or_le ((m:Int)-n) 0 with g | g;exact g
    ·have:=Int.mul_nonneg g (Int.le_of_lt hp');omega
   ·intro h;exact Int.mul_neg_of_neg_of_pos h hp'
 rw[hs];simp only[ac7];rw[NS _ acB hKK];rfl
theorem Cl {a b:Int} (ha:0<=a/\a<=200) (hb:0<=b/\b<=200):FloatKind.f64.format.sub (FloatKind.f64.nearest a) (FloatKind.f64.nearest b)=some (FloatKind.f64.nearest (a-b)):=by
 obtain⟨m,rfl⟩:=adg ha.1;obtain⟨n,rfl⟩:=adg hb.1;exact NR acB acB
def D7 (n:Nat):Bool:=FloatKind.f64.format.mul (FloatKind.f64.nearest (n:Int)) (FloatKind.f64.nearest (n:Int))==some (FloatKind.f64.nearest ((n:Int)*(n:Int))) &&
 FloatKind.f64.format.mul (FloatKind.f64.nearest (-(n:Int))) (FloatKind.f64.nearest (-(n:Int)))==some (FloatKind.f64.nearest ((n:Int)*(n:Int)))
theorem UN:(List.range 201).all D7=true:=by kernel_rfl
theorem Cj {d:Int} (h:-200<=d/\d<=200):FloatKind.f64.format.mul (FloatKind.f64.nearest d) (FloatKind.f64.nearest d)=some (FloatKind.f64.nearest ((d.natAbs:Int)*(d.natAbs:Int))):=by
 have:=acI.1 UN d.natAbs (adI.2 acB);simp only[D7,acN]at this;obtain⟨n,hn⟩:∃n,n=d.natAbs:=⟨_,rfl⟩;rw[<-hn]at this |-;rcases(by omega:d=(n:Int)\/d = -(n:Int))with rfl | rfl;exact eq_of_beq this.1;exact eq_of_beq this.2
def zT (a:Nat):Bool:=FloatKind.f64.format.add (FloatKind.f64.nearest (a:Int)) 4607182418800017408==some (FloatKind.f64.nearest ((a:Int)+1)) &&
 FloatKind.f64.format.add (FloatKind.f64.nearest (a:Int)) 0==some (FloatKind.f64.nearest (a:Int)) &&
 FloatKind.f64.format.add (FloatKind.f64.nearest (a:Int)) 13830554455654793216==some (FloatKind.f64.nearest ((a:Int)-1))
theorem HG:(List.range 201).all zT=true:=by kernel_rfl
theorem Ci {a:Int} (h:0<=a/\a<=200):FloatKind.f64.format.add (FloatKind.f64.nearest a) 4607182418800017408=some (FloatKind.f64.nearest (a+1)) /\
    FloatKind.f64.format.add (FloatKind.f64.nearest a) 0=some (FloatKind.f64.nearest a)/\FloatKind.f64.format.add (FloatKind.f64.nearest a) 13830554455654793216=some (FloatKind.f64.nearest (a-1)):=by
 obtain⟨n,rfl⟩:=adg h.1;have:=acI.1 HG n (adI.2 acB);simp only[zT,acN]at this;exact⟨eq_of_beq this.1.1,eq_of_beq this.1.2,eq_of_beq this.2⟩
set_option maxRecDepth 10000
def Cq (p q:Nat):Bool:=FloatKind.f64.format.add (FloatKind.f64.nearest ((p:Int)*(p:Int))) (FloatKind.f64.nearest ((q:Int)*(q:Int)))==some (FloatKind.f64.nearest ((p:Int)*(p:Int)+(q:Int)*(q:Int))) &&
 (FloatKind.f64.format.order (FloatKind.f64.nearest ((p:Int)*(p:Int)+(q:Int)*(q:Int))) 4598175219545276416==some .gt)==decide (0<p+q)
def NW:Bool:=(List.range 41).all λp=>(List.range 201).all λq=>Cq p q
theorem NX:NW=true:=by kernel_rfl
theorem NN {p q:Nat} (hp:p<=40) (hq:q<=200):FloatKind.f64.format.add (FloatKind.f64.nearest ((p:Int)*(p:Int))) (FloatKind.f64.nearest ((q:Int)*(q:Int)))=some (FloatKind.f64.nearest ((p:Int)*(p:Int)+(q:Int)*(q:Int))) /\
    (FloatKind.f64.format.order (FloatKind.f64.nearest ((p:Int)*(p:Int)+(q:Int)*(q:Int))) 4598175219545276416==some .gt)=decide (0<p+q):=by
 have:=acI.1 (acI.1 NX p (adI.2 acB)) q (adI.2 acB);simp only[Cq,acN]at this;exact⟨eq_of_beq this.1,eq_of_beq this.2⟩
end Go.Proofs.YtgghhaahnpbnmaaGreatDoor.Gr
