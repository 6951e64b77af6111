/- The proof, part 21 of 32. -/
import Derived.Test.YthmkimlfnkghmaaGreatDoorOdbUniqueO
import Derived.Test.YthmkimlfnkghmaaGreatDoorOdbUniqueR
import Derived.Test.YthmkimlfnkghmaaGreatDoorOdbUniqueT
set_option linter.all false
namespace Go.Proofs.YthmkimlfnkghmaaGreatDoor.Ls
open Eng
set_option maxRecDepth 10000
def bigM (t:Bs):Nat:=t.foldl (fun x b=>256*x+b.toNat) 0
theorem bigM_take (t:Bs) {k:Nat} (h:k<t.length):bigM (t.take (k+1))=256*bigM (t.take k)+(t.getD k 0).toNat:=by
 rw[take_snoc 0 t h];simp[bigM]
theorem bigM_lt (t:Bs):∀k,k≤t.length→bigM (t.take k)<256^k
 | 0,_=>by rw[List.take_zero];decide
 | k+1,h=>by
  have ih:=bigM_lt t k (by omega)
  have hb:=(t.getD k 0).toNat_lt
  rw[bigM_take t h,Nat.pow_succ]
  omega
theorem big_lt {t:Bs} {n:Nat} (h:t.length≤n):bigM t<256^n:=by
 have h1:=bigM_lt t t.length (Nat.le_refl _)
 rw[List.take_of_length_le (Nat.le_refl _)]at h1
 exact Nat.lt_of_lt_of_le h1 (Nat.pow_le_pow_right (by decide) h)
theorem or_8u {x b:Nat} (hx:x<72057594037927936) (hb:b<256):bits .or .u64 (IntKind.u64.wrap ((x:Int)*2^min 8 64)) (b:Int)=((256*x+b:Nat):Int):=by
 have h1:((x:Int)*2^min 8 64)=((x*256:Nat):Int):=by
  rw[show((2:Int)^min 8 64)=256 by decide];omega
 rw[h1,wrap_u64 (by omega)]
 show IntKind.u64.wrap ((BitVec.ofInt 64 ((x*256:Nat):Int) ||| BitVec.ofInt 64 (b:Int)).toNat:Int)=_
 rw[BitVec.ofInt_natCast,BitVec.ofInt_natCast,BitVec.toNat_or,BitVec.toNat_ofNat,BitVec.toNat_ofNat,Nat.mod_eq_of_lt (by omega),Nat.mod_eq_of_lt (by omega)]
 have h2:x*256 ||| b=256*x+b:=by
  have h3:=Nat.shiftLeft_add_eq_or_of_lt (b:=b) (i:=8) (by omega) x
  rw[Nat.shiftLeft_eq,show(2:Nat)^8=256 by decide]at h3
  omega
 rw[h2]
 exact wrap_u64 (by omega)
theorem frombig8_ok (t:Bs) (ht:t.length≤8):SpecR Tryz.prog 44 [.str t] (.int .u64 (bigM t:Nat)):=by
 refine Cod.ofrombig_spec (fun E R hN hR=>?_)
 simp(disch:=omega)only[go_sem,simprocAttr]
 refine vcW_loop hN (fun k:Nat=>⟨[(0,.str t),(3,.int .u64 (bigM (t.take k):Nat)),(6,.int .i64 t.length),(7,.int .i64 k)],[]⟩) (fun k=>k≤t.length) (fun k=>t.length-k) 0 (.le (by simp(disch:=omega)only[go_sem,simprocAttr];simp[bigM])) (by omega) ?_
 rintro k R1 hk hR1
 by_cases hlt:k<t.length
 ·have hct:=bigM_take t hlt
  have hxl:bigM (t.take k)<72057594037927936:=Nat.lt_of_lt_of_le (bigM_lt t k hk) (Nat.pow_le_pow_right (n:=256) (by decide) (by omega:k≤7))
  have hbl:=(t.getD k 0).toNat_lt
  have ho:=or_8u hxl hbl
  generalize bigM (t.take k)=x at *
  simp(disch:=omega)only[go_sem,simprocAttr,ho]
  exact hR1 (k+1) _ (by omega) (by omega) (.le (by simp(disch:=omega)only[go_sem,simprocAttr,hct]))
 ·obtain rfl:k=t.length:=by omega
  rw[List.take_of_length_le (Nat.le_refl _)]
  simp(disch:=omega)only[go_sem,simprocAttr]
  exact hR.ro ⟨rfl,rfl⟩
def cntE (s:Bs):Int×Int:=
 if s.length<32 then(0,6)
 else if s.take 4≠[80,65,67,75]then(0,3)
 else if bigM ((s.drop 4).take 4)≠2 then(0,3)
 else if 1000<bigM ((s.drop 8).take 4)then(0,2)
 else if Sh.sha1 (s.take (s.length-20))≠s.drop (s.length-20)then(0,5)
 else(bigM ((s.drop 8).take 4),0)
theorem cnt_32 {s:Bs} (h:(cntE s).2=0):32≤s.length:=by
 unfold cntE at h
 split at h
 ·cases h
 ·omega
theorem xcount_ok (s:Bs) (hs:s.length≤100000):SpecR Tryz.prog 22 [.str s] (.tup [.int .i64 (cntE s).1,.int .i64 (cntE s).2]):=by
 refine Cod.xcount_spec (fun E R hN hR=>?_)
 have fin:∀{h} (n e:Int),cntE s=(n,e)→R h (.tup [.int .i64 n,.int .i64 e]) [.undef]:=fun n e he=>hR.ro ⟨rfl,by rw[he]⟩
 by_cases h32:s.length<32
 ·simp(disch:=first | omega | (simp only[Lx];omega))only[go_sem,simprocAttr]
  exact fin 0 6 (by unfold cntE;rw[if_pos h32])
 ·have hb4:=frombig8_ok ((s.drop 4).take 4) (by rw[List.length_take];omega)
  have hb8:=frombig8_ok ((s.drop 8).take 4) (by rw[List.length_take];omega)
  have hl8:bigM ((s.drop 8).take 4)<4294967296:=big_lt (n:=4) (by rw[List.length_take];omega)
  have hsum:=Sh.sum1_ok (s.take (s.length-20)) (by rw[List.length_take];omega)
  have et:((s.length:Int)-20).toNat=s.length-20:=by omega
  by_cases h1:s.take 4=[80,65,67,75]
  ·have hc:cntE s=(if bigM ((s.drop 4).take 4)≠2 then((0:Int),(3:Int))else if 1000<bigM ((s.drop 8).take 4)then(0,2)else if Sh.sha1 (s.take (s.length-20))≠s.drop (s.length-20)then(0,5)else((bigM ((s.drop 8).take 4):Nat),0)):=by unfold cntE;rw[if_neg h32,if_neg (fun h=>h h1)]
   generalize bigM ((s.drop 4).take 4)=x4 at *
   generalize bigM ((s.drop 8).take 4)=x8 at *
   simp(disch:=first | omega | (simp only[Lx];omega))only[go_sem,simprocAttr,h1]
   (repeat(first | refine gskip_of ?_ | refine gcskip_of ?_ | refine gopen_of ?_)<;>simp(disch:=first | omega | (simp only[Lx];omega))only[go_sem,simprocAttr,h1])
   refine gcyes_of (callT_ro (by simp(disch:=first | omega | (simp only[Lx];omega))only[go_sem,simprocAttr]) hb4 (by simp(disch:=first | omega | (simp only[Lx];omega))only[go_sem,simprocAttr]) rfl rfl ?_)
   by_cases h2:((x4:Nat):Int)=2
   ·rw[if_neg (fun h:¬x4=2=>h (by omega))]at hc
    simp(disch:=first | omega | (simp only[Lx];omega))only[go_sem,simprocAttr,h2]
    (repeat(first | refine gskip_of ?_ | refine gcskip_of ?_ | refine gopen_of ?_)<;>simp(disch:=first | omega | (simp only[Lx];omega))only[go_sem,simprocAttr,h2])
    refine call_ro hb8 rfl rfl ?_
    by_cases h1000:1000<x8
    ·rw[if_pos h1000]at hc
     simp(disch:=first | omega | (simp only[Lx];omega))only[go_sem,simprocAttr]
     exact fin 0 2 hc
    ·rw[if_neg h1000]at hc
     simp(disch:=first | omega | (simp only[Lx];omega))only[go_sem,simprocAttr,et]
     refine call_ro hsum rfl rfl ?_
     by_cases hsha:Sh.sha1 (s.take (s.length-20))=s.drop (s.length-20)
     ·rw[if_neg (fun h=>h hsha)]at hc
      simp(disch:=first | omega | (simp only[Lx];omega))only[go_sem,simprocAttr,et,hsha]
      exact fin _ 0 hc
     ·rw[if_pos hsha]at hc
      simp(disch:=first | omega | (simp only[Lx];omega))only[go_sem,simprocAttr,et,hsha]
      exact fin 0 5 hc
   ·rw[if_pos (fun h:x4=2=>h2 (by omega))]at hc
    simp(disch:=first | omega | (simp only[Lx];omega))only[go_sem,simprocAttr,h2]
    (repeat(first | refine gskip_of ?_ | refine gcskip_of ?_ | refine gopen_of ?_)<;>simp(disch:=first | omega | (simp only[Lx];omega))only[go_sem,simprocAttr,h2])
    exact fin 0 3 hc
  ·have hc:cntE s=(0,3):=by unfold cntE;rw[if_neg h32,if_pos h1]
   simp(disch:=first | omega | (simp only[Lx];omega))only[go_sem,simprocAttr,h1]
   (repeat(first | refine gskip_of ?_ | refine gcskip_of ?_ | refine gopen_of ?_)<;>simp(disch:=first | omega | (simp only[Lx];omega))only[go_sem,simprocAttr,h1])
   exact fin 0 3 hc
end Go.Proofs.YthmkimlfnkghmaaGreatDoor.Ls
