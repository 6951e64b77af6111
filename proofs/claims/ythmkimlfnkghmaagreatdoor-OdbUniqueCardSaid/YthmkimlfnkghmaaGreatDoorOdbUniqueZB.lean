/- The proof, part 28 of 32. -/
import Derived.Test.YthmkimlfnkghmaaGreatDoorOdbUniqueU
import Derived.Test.YthmkimlfnkghmaaGreatDoorOdbUniqueV
import Derived.Test.YthmkimlfnkghmaaGreatDoorOdbUniqueZA
set_option linter.all false
namespace Go.Proofs.YthmkimlfnkghmaaGreatDoor.Ls
open Eng
set_option maxRecDepth 10000
theorem hexD_mono:∀i,i<16→∀j,j<16→i<j→(Sh.hexD.getD i 0).toNat<(Sh.hexD.getD j 0).toNat:=by decide +kernel
theorem hex_cb:∀a b:Bs,Lib.compareBytes a b<0→a.length=b.length→Lib.compareBytes (Sh.hexOf a) (Sh.hexOf b)<0
 | [],[],h,_=>by simp[Lib.compareBytes]at h
 | [],_::_,_,h=>by simp at h
 | _::_,[],_,h=>by simp at h
 | x::a,y::b,h,hl=>by
  have e:∀(c:UInt8) (r:Bs),Sh.hexOf (c::r)=Sh.hexD.getD (c.toNat/16) 0::Sh.hexD.getD (c.toNat%16) 0::Sh.hexOf r:=fun _ _=>rfl
  have hx:=x.toNat_lt
  have hy:=y.toNat_lt
  rw[e,e]
  simp only[Lib.compareBytes,UInt8.lt_iff_toNat_lt]at h ⊢
  by_cases h1:x.toNat<y.toNat
  ·by_cases h2:x.toNat/16<y.toNat/16
   ·rw[if_pos (hexD_mono _ (by omega) _ (by omega) h2)];omega
   ·have h3:x.toNat/16=y.toNat/16:=by omega
    rw[h3,if_neg (Nat.lt_irrefl _),if_neg (Nat.lt_irrefl _),if_pos (hexD_mono _ (by omega) _ (by omega) (by omega))];omega
  ·rw[if_neg h1]at h
   by_cases h2:y.toNat<x.toNat
   ·rw[if_pos h2]at h;omega
   ·rw[if_neg h2]at h
    have h3:x.toNat=y.toNat:=by omega
    rw[h3,if_neg (Nat.lt_irrefl _),if_neg (Nat.lt_irrefl _),if_neg (Nat.lt_irrefl _),if_neg (Nat.lt_irrefl _)]
    exact hex_cb a b h (by simpa using hl)
theorem hexD_hexO:∀k,k<16→isHex (Sh.hexD.getD k 0)=true:=by decide +kernel
theorem hexOf_allO:∀t:Bs,(Sh.hexOf t).all isHex=true
 | []=>rfl
 | c::r=>by
  have e:Sh.hexOf (c::r)=Sh.hexD.getD (c.toNat/16) 0::Sh.hexD.getD (c.toNat%16) 0::Sh.hexOf r:=rfl
  have hc:=c.toNat_lt
  rw[e,List.all_cons,List.all_cons,hexOf_allO r,hexD_hexO _ (by omega),hexD_hexO _ (by omega)]
  rfl
theorem hex_id {t:Bs} (h:t.length=20):idB (Sh.hexOf t)=true:=by
 have h1:=Sh.hex_len t
 unfold idB hexOK
 rw[hexOf_allO,Bool.true_and,Bool.and_eq_true,decide_eq_true_eq,decide_eq_true_eq]
 omega
theorem id_all {s:Bs} (h:idB s=true):s.length=40∧s.all isHex=true:=by
 unfold idB hexOK at h
 rw[Bool.and_eq_true,Bool.and_eq_true,decide_eq_true_eq,decide_eq_true_eq]at h
 exact⟨h.2,h.1.1⟩
theorem id_of {s:Bs} (h1:s.length=40) (h2:s.all isHex=true):idB s=true:=by
 unfold idB hexOK
 rw[h2,Bool.true_and,Bool.and_eq_true,decide_eq_true_eq,decide_eq_true_eq]
 omega
theorem id_fill {s:Bs} (h:idB s=true) (n:Nat) (hn:n≤40):idB (s.take n++List.replicate (40-n) 48)=true:=by
 obtain⟨h1,h2⟩:=id_all h
 refine id_of (by rw[List.length_append,List.length_take,List.length_replicate];omega) ?_
 rw[List.all_append,Bool.and_eq_true]
 refine⟨List.all_eq_true.2 (fun x hx=>List.all_eq_true.1 h2 x (List.mem_of_mem_take hx)),List.all_eq_true.2 (fun x hx=>?_)⟩
 obtain⟨_,rfl⟩:=List.mem_replicate.1 hx
 decide
end Go.Proofs.YthmkimlfnkghmaaGreatDoor.Ls
namespace Go.Proofs.YthmkimlfnkghmaaGreatDoor.Ls
open Eng
set_option maxRecDepth 10000
abbrev Rw:=Bs×Nat×Nat
abbrev noR:Rw:=([],0,0)
def rowA (r:Rw):AV:=.agg [.str r.1,.int .i64 (r.2.1:Nat),.int .u32 (r.2.2:Nat)]
def rowsA (L:List Rw):List AV:=L.map rowA
theorem nth_rows {L:List Rw} {i:Nat} (h:i<L.length):nth (rowsA L) i=.agg [.str (L.getD i noR).1,.int .i64 ((L.getD i noR).2.1:Nat),.int .u32 ((L.getD i noR).2.2:Nat)]:=by
 simp[nth,rowsA,rowA,List.getD_eq_getElem?_getD,h]
theorem rowsA_len (L:List Rw):(rowsA L).length=L.length:=by simp[rowsA]
theorem rowsA_cells {L:List Rw}:(rowsA L).all cellsOK=true:=by simp[rowsA,rowA,cellsOK,cellsOf,isCell]
theorem rowsA_app {L:List Rw} {a:Bs} {b c:Nat}:rowsA L++[.agg [.str a,.int .i64 (b:Nat),.int .u32 (c:Nat)]]=rowsA (L++[(a,b,c)]):=by simp[rowsA,rowA]
theorem rowsA_nil:rowsA []=[]:=(rfl)
theorem rowsA_sub (L:List Rw):sub3 (rowsA L) 0 L.length=rowsA L:=by
 unfold sub3
 rw[List.drop_zero,List.take_of_length_le (by rw[rowsA_len];omega)]
def cutB (s:Bs) (o n:Nat):Bs:=(s.drop o).take n
theorem cut_len {s:Bs} {o n:Nat} (h:o+n≤s.length):(cutB s o n).length=n:=by unfold cutB;rw[List.length_take,List.length_drop];omega
theorem cut_eq (s:Bs) (o n:Nat):(s.drop o).take n=cutB s o n:=rfl
def fanN (s:Bs) (i:Nat):Nat:=if i=0 then 0 else bigM (cutB s (4+4*i) 4)
def fanA (s:Bs) (k:Nat):List AV:=(List.range 257).map fun i=>.int .i64 ((if i≤k then fanN s i else 0:Nat):Int)
theorem fan_lt (s:Bs) (i:Nat):fanN s i<4294967296:=by
 unfold fanN
 split
 ·omega
 ·exact big_lt (n:=4) (by unfold cutB;rw[List.length_take];omega)
theorem fan_len (s:Bs) (k:Nat):(fanA s k).length=257:=by simp[fanA]
theorem fan_get (s:Bs) (k:Nat) {i:Nat} (h:i<257):(fanA s k).getD i .undef=.int .i64 ((if i≤k then fanN s i else 0:Nat):Int):=by
 unfold fanA
 rw[List.getD_eq_getElem?_getD,List.getElem?_map,List.getElem?_range h];rfl
theorem fan_step (s:Bs) {k:Nat} (h:k<256):(fanA s k).set (k+1) (.int .i64 (fanN s (k+1):Nat))=fanA s (k+1):=by
 apply List.ext_getElem?
 intro j
 rw[List.getElem?_set,fan_len]
 unfold fanA
 rw[List.getElem?_map,List.getElem?_map]
 by_cases hx:k+1=j
 ·subst hx
  rw[if_pos rfl,if_pos (by omega),List.getElem?_range (by omega)]
  simp
 ·rw[if_neg hx]
  by_cases hj:j<257
  ·rw[List.getElem?_range hj]
   simp only[Option.map_some]
   by_cases h1:j≤k
   ·rw[if_pos h1,if_pos (by omega)]
   ·rw[if_neg h1,if_neg (by omega)]
  ·rw[List.getElem?_eq_none (by simp;omega)];rfl
theorem fan_kill {id:Nat} {s:Bs} {k:Nat}:(fanA s k).map (killC id)=fanA s k:=by simp[fanA,killC]
theorem fan_frz {id sz:Nat} {es:List AV} {s:Bs} {k:Nat}:(fanA s k).map (frzC id sz es)=fanA s k:=by simp[fanA,frzC]
theorem fan_ref {s:Bs} {k:Nat}:(fanA s k).all noRefC=true:=by simp[fanA,noRefC]
theorem fmid_drop {a b:AV} {xs:List AV} {i:Nat} (h:i<xs.length):((a::(xs++[b])).drop (1+i)).getD 0 .undef=xs.getD i .undef:=by
 rw[Nat.add_comm,List.drop_succ_cons,List.getD_eq_getElem?_getD,List.getElem?_drop,Nat.add_zero,List.getElem?_append_left h,List.getD_eq_getElem?_getD]
theorem fmid_len {a b:AV} {xs:List AV} {i:Nat} (h:i<xs.length):0<((a::(xs++[b])).drop (1+i)).length:=by simp;omega
theorem fmid_seg {a b v:AV} {xs:List AV} {i:Nat} (h:i<xs.length):seg (a::(xs++[b])) (1+i) [v]=a::(xs.set i v++[b]):=by
 unfold seg
 rw[Nat.add_comm 1 i,List.take_succ_cons,show i+1+[v].length=(i+1)+1 by simp,List.drop_succ_cons,List.take_append_of_le_length (by omega),List.drop_append_of_le_length (by omega),List.set_eq_take_append_cons_drop,if_pos h]
 simp
def farN (s:Bs) (n:Nat):Nat:=s.length-40-(1032+28*n)
def rawB (s:Bs) (k:Nat):Bs:=cutB s (1032+20*k) 20
def chN (s:Bs) (k:Nat):Nat:=((rawB s k).getD 0 0).toNat
def badR (s:Bs) (k:Nat):Prop:=(0<k∧Op.bytesLess (cutB s (1012+20*k) 20) (rawB s k)=false)∨k<fanN s (chN s k)∨fanN s (chN s k+1)≤k
def nearN (s:Bs) (n k:Nat):Nat:=bigM (cutB s (1032+24*n+4*k) 4)
def placeN (s:Bs) (n k:Nat):Nat:=if 2147483648≤nearN s n k then bigM (cutB (cutB s (1032+28*n) (farN s n)) (8*(nearN s n k-2147483648)) 8)else nearN s n k
open Classical in
noncomputable def rowP (s:Bs) (n j:Nat):Except Int Rw:=
 if badR s j then .error 3
 else if 2147483648≤nearN s n j∧farN s n/8≤nearN s n j-2147483648 then .error 3
 else if 1099511627776<placeN s n j then .error 2
 else .ok (Sh.hexOf (rawB s j),placeN s n j,bigM (cutB s (1032+20*n+4*j) 4))
noncomputable def rowsP (s:Bs) (n:Nat):Nat→Except Int (List Rw)
 | 0=>.ok []
 | k+1=>match rowsP s n k with
  | .error e=>.error e
  | .ok l=>match rowP s n k with
   | .error e=>.error e
   | .ok r=>.ok (l++[r])
theorem rows_err {s:Bs} {n:Nat} {e:Int}:∀{m k:Nat},k≤m→rowsP s n k=.error e→rowsP s n m=.error e
 | 0,k,h,h1=>by
  obtain rfl:k=0:=by omega
  exact h1
 | m+1,k,h,h1=>by
  by_cases hk:k=m+1
  ·subst hk;exact h1
  ·unfold rowsP
   rw[rows_err (by omega:k≤m) h1]
theorem rows_len {s:Bs} {n:Nat}:∀{k:Nat} {l:List Rw},rowsP s n k=.ok l→l.length=k
 | 0,l,h=>by
  unfold rowsP at h
  cases h;rfl
 | k+1,l,h=>by
  unfold rowsP at h
  cases h1:rowsP s n k with
  | error e=>rw[h1]at h;cases h
  | ok l'=>
   rw[h1]at h
   cases h2:rowP s n k with
   | error e=>rw[h2]at h;cases h
   | ok r=>
    rw[h2]at h
    cases h
    rw[List.length_append,rows_len h1];rfl
def fanOK (s:Bs):Prop:=∀i,i<256→fanN s i≤fanN s (i+1)
open Classical in
noncomputable def parseP (s:Bs):Except Int (List Rw×Bs):=
 let n:=fanN s 256
 if s.length<1072 then .error 6
 else if s.take 8≠[255,116,79,99,0,0,0,2]then .error 3
 else if ¬fanOK s then .error 3
 else if 1000<n then .error 2
 else if s.length<1072+28*n then .error 6
 else if farN s n%8≠0 then .error 3
 else match rowsP s n n with
  | .error e=>.error e
  | .ok l=>if Sh.sha1 (s.take (s.length-20))≠s.drop (s.length-20)then .error 5 else .ok (l,Sh.hexOf (cutB s (s.length-40) 20))
abbrev idxA (s:Bs) (p:List Rw×Bs):AV:=.elt (.agg (.ro 3 (rowsA p.1)::(fanA s 256++[.str p.2])))
def parseA (s:Bs):Except Int (List Rw×Bs)→AV
 | .error e=>.tup [.lit (.pointer none),.int .i64 e]
 | .ok p=>.tup [idxA s p,.int .i64 0]
set_option maxHeartbeats 4000000 in
theorem xparse_ok (s:Bs) (hs:s.length≤100000):SpecR Tryz.prog 21 [.str s] (parseA s (parseP s)):=by
 refine Cod.xparse_spec (fun E R hN hR=>?_)
 have bad:∀{h} (e:Int),parseP s=.error e→R h (.tup [.lit (.pointer none),.int .i64 e]) [.undef]:=fun e he=>hR.ro ⟨rfl,by rw[he];rfl⟩
 by_cases h0:s.length<1072
 ·simp(disch:=first | omega | (simp only[Lx];omega))only[go_sem,simprocAttr]
  exact bad 6 (by unfold parseP;rw[if_pos h0])
 by_cases h1:s.take 8=[255,116,79,99,0,0,0,2]
 rotate_left
 ·simp(disch:=first | omega | (simp only[Lx];omega))only[go_sem,simprocAttr,h1]
  exact bad 3 (by unfold parseP;rw[if_neg h0,if_pos h1])
 simp(disch:=first | omega | (simp only[Lx];omega))only[go_sem,simprocAttr,h1]
 refine vcW_loop hN (fun k:Nat=>⟨[(0,.str s),(4,.vptr 240019 0),(20,.int .i64 k)],[(240019,.var (.nilsl::(fanA s k++[.str []])))]⟩) (fun k=>k≤256∧∀i,i<k→fanN s i≤fanN s (i+1)) (fun k=>256-k) 0 (.le (by simp(disch:=first | omega | (simp only[Lx];omega))only[go_sem,simprocAttr];rfl)) ⟨by omega,fun i h=>by omega⟩ ?_
 rintro k R1 ⟨hk,hmono⟩ hR1
 by_cases hlt:k<256
 ·have e1:((8:Int)+4*(k:Int)).toNat=8+4*k:=by omega
  have e2:((12:Int)+4*(k:Int)).toNat=12+4*k:=by omega
  have e3:12+4*k-(8+4*k)=4:=by omega
  have hb:=frombig8_ok (cutB s (8+4*k) 4) (by rw[cut_len (by omega)];omega)
  have hfe:bigM (cutB s (8+4*k) 4)=fanN s (k+1):=by
   unfold fanN
   rw[if_neg (by omega),show 4+4*(k+1)=8+4*k by omega]
  rw[hfe]at hb
  have hl:=fan_lt s (k+1)
  have hl2:=fan_lt s k
  have hst:=fan_step s hlt
  have hfl:=fan_len s k
  have hfl1:=fan_len s (k+1)
  have hg0:=fan_get s (k+1) (i:=k) (by omega)
  have hg1:=fan_get s (k+1) (i:=k+1) (by omega)
  rw[if_pos (by omega)]at hg0 hg1
  simp(disch:=first | omega | (simp only[Lx];omega))only[go_sem,simprocAttr,e1,e2,e3,cut_eq]
  refine call_ro hb rfl rfl ?_
  have e4:((k:Int)+1).toNat=k+1:=by omega
  simp(disch:=first | omega | (simp only[Lx];omega))only[go_sem,simprocAttr,fmid_drop,fmid_len,fmid_seg,Nat.mul_one,e4,hst,hg0,hg1]
  by_cases hm:fanN s k≤fanN s (k+1)
  ·have hi:¬((fanN s (k+1):Nat):Int)<(fanN s k:Nat):=by omega
   simp(disch:=first | omega | (simp only[Lx];omega))only[go_sem,simprocAttr,hi]
   refine hR1 (k+1) _ (by omega) ⟨by omega,fun i h=>?_⟩ (.le (by simp(disch:=first | omega | (simp only[Lx];omega))only[go_sem,simprocAttr]))
   rcases Nat.lt_succ_iff_lt_or_eq.1 h with h | rfl
   ·exact hmono i h
   ·exact hm
  ·have hi:((fanN s (k+1):Nat):Int)<(fanN s k:Nat):=by omega
   simp(disch:=first | omega | (simp only[Lx];omega))only[go_sem,simprocAttr,hi]
   exact bad 3 (by unfold parseP;rw[if_neg h0,if_neg (fun h=>h h1),if_pos (fun h=>hm (h k hlt))])
 ·obtain rfl:k=256:=by omega
  have hok:fanOK s:=fun i h=>hmono i h
  have hl:=fan_lt s 256
  have hfl:=fan_len s 256
  have hg:=fan_get s 256 (i:=256) (by omega)
  rw[if_pos (by omega)]at hg
  obtain⟨n,hn⟩:∃n,n=fanN s 256:=⟨_,rfl⟩
  rw[←hn]at hl hg
  have hb0:parseP s=(if 1000<n then .error 2
   else if s.length<1072+28*n then .error 6
   else if farN s n%8≠0 then .error 3
   else match rowsP s n n with
    | .error e=>.error e
    | .ok l=>if Sh.sha1 (s.take (s.length-20))≠s.drop (s.length-20)then .error 5 else .ok (l,Sh.hexOf (cutB s (s.length-40) 20))):=by
   unfold parseP
   rw[if_neg h0,if_neg (fun h=>h h1),if_neg (fun h=>h hok),←hn]
  have hd0:((fanA s 256++[AV.str []]).drop 256).getD 0 .undef=.int .i64 n:=by
   rw[←hg,List.getD_eq_getElem?_getD,List.getElem?_drop,Nat.add_zero,List.getElem?_append_left (by omega),List.getD_eq_getElem?_getD]
  have hd1:0<((fanA s 256++[AV.str []]).drop 256).length:=by simp;omega
  simp(disch:=first | omega | (simp only[Lx];omega))only[go_sem,simprocAttr,hd0,hd1]
  by_cases g1:1000<n
  ·have hi:(1000:Int)<(n:Int):=by omega
   simp(disch:=first | omega | (simp only[Lx];omega))only[go_sem,simprocAttr,hi]
   exact bad 2 (by rw[hb0,if_pos g1])
  have hi:¬(1000:Int)<(n:Int):=by omega
  rw[if_neg g1]at hb0
  simp(disch:=first | omega | (simp only[Lx];omega))only[go_sem,simprocAttr,hi]
  by_cases g2:s.length<1072+28*n
  ·simp(disch:=first | omega | (simp only[Lx];omega))only[go_sem,simprocAttr]
   exact bad 6 (by rw[hb0,if_pos g2])
  rw[if_neg g2]at hb0
  have ea:((1032:Int)+28*(n:Int)).toNat=1032+28*n:=by omega
  have eb:((s.length:Int)-40).toNat-(1032+28*n)=farN s n:=by unfold farN;omega
  have efl:(cutB s (1032+28*n) (farN s n)).length=farN s n:=cut_len (by unfold farN;omega)
  simp(disch:=first | omega | (simp only[Lx];omega))only[go_sem,simprocAttr,ea,eb,cut_eq,efl]
  by_cases g3:farN s n%8=0
  rotate_left
  ·have hi:¬((farN s n:Nat):Int)%8=0:=by omega
   simp(disch:=first | omega | (simp only[Lx];omega))only[go_sem,simprocAttr,efl,hi]
   exact bad 3 (by rw[hb0,if_pos g3])
  have hi:((farN s n:Nat):Int)%8=0:=by omega
  rw[if_neg (fun h=>h g3)]at hb0
  simp(disch:=first | omega | (simp only[Lx];omega))only[go_sem,simprocAttr,efl,hi]
  obtain⟨F,hF⟩:∃F,F=cutB s (1032+28*n) (farN s n):=⟨_,rfl⟩
  rw[←hF]at efl
  rw[←hF]
  have hn1:n≤1000:=by omega
  refine vcW_loop hN (fun p:Nat×List Rw=>⟨[(0,.str s),(4,.vptr 240019 0),(6,.int .i64 n),(7,.str F),(80,.int .i64 n),(81,.int .i64 p.1)],[(240019,.var (.sl 240196 0 p.2.length::(fanA s 256++[.str []]))),(240196,.arr 3 (rowsA p.2))]⟩)
   (fun p=>p.1≤n∧rowsP s n p.1=.ok p.2) (fun p=>n-p.1) (0,[]) (.nilV 240019 0 240196 3 (.nilsl::(fanA s 256++[.str []])) rfl rfl rfl (.le (by simp(disch:=first | omega | (simp only[Lx];omega))only[go_sem,simprocAttr,List.map_cons,List.map_append,fan_kill,List.set_cons_zero,rowsA_nil]))) ⟨by omega,rfl⟩ ?_
  rintro⟨k,l⟩ R2 ⟨hk2,hrows⟩ hR2
  simp only at hk2 hrows
  have hll:=rows_len hrows
  by_cases hlt2:k<n
  ·have hrb:1032+20*k+20≤s.length:=by omega
   have c1:((1032:Int)+20*(k:Int)).toNat=1032+20*k:=by omega
   have c2:((1032:Int)+20*(k:Int)+20).toNat-(1032+20*k)=20:=by omega
   have hrl:=cut_len hrb
   change (rawB s k).length=20 at hrl
   have hrw:cutB s (1032+20*k) 20=rawB s k:=rfl
   obtain⟨raw,hraw⟩:∃raw,raw=rawB s k:=⟨_,rfl⟩
   have hch:(raw.getD 0 0).toNat=chN s k:=by rw[hraw];rfl
   rw[←hraw]at hrl hrw
   have hcb:=(raw.getD 0 0).toNat_lt
   obtain⟨c,hc⟩:∃c,c=chN s k:=⟨_,rfl⟩
   rw[hch,←hc]at hcb
   rw[←hc]at hch
   have hf0:=fan_get s 256 (i:=c) (by omega)
   have hf1:=fan_get s 256 (i:=c+1) (by omega)
   rw[if_pos (by omega)]at hf0 hf1
   have badr:∀{h} (e:Int),rowP s n k=.error e→R h (.tup [.lit (.pointer none),.int .i64 e]) [.undef]:=fun e he=>bad e (by
    have h1:rowsP s n (k+1)=.error e:=by unfold rowsP;rw[hrows];simp only[he]
    rw[hb0,rows_err (by omega:k+1≤n) h1])
   have bad3:∀{h},badR s k→R h (.tup [.lit (.pointer none),.int .i64 3]) [.undef]:=fun h=>badr 3 (by unfold rowP;rw[if_pos h])
   simp(disch:=first | omega | (simp only[Lx];omega))only[go_sem,simprocAttr,c1,c2,cut_eq,hrw]
   have c3:((1032:Int)+20*(k:Int)-20).toNat=1012+20*k:=by omega
   have c4:1032+20*k-(1012+20*k)=20:=by omega
   have c5:((c:Int)+1).toNat=c+1:=by omega
   obtain⟨prev,hprev⟩:∃prev,prev=cutB s (1012+20*k) 20:=⟨_,rfl⟩
   obtain⟨fc,hfc⟩:∃fc,fc=fanN s c:=⟨_,rfl⟩
   obtain⟨fd,hfd⟩:∃fd,fd=fanN s (c+1):=⟨_,rfl⟩
   rw[←hfc]at hf0
   rw[←hfd]at hf1
   have hbr:badR s k↔(0<k∧Op.bytesLess prev raw=false)∨k<fc∨fd≤k:=by
    unfold badR;rw[←hc,←hraw,←hprev,←hfc,←hfd]
   by_cases hA:0<k∧Op.bytesLess prev raw=false
   ·have hi:(0:Int)<(k:Int):=by omega
    have hA2:=hA.2
    simp(disch:=first | omega | (simp only[Lx];omega))only[go_sem,simprocAttr,hi,c1,c3,c4,cut_eq,←hprev,hA2,Bool.not_false,Bool.not_true]
    (repeat(first | refine gskip_of ?_ | refine gcskip_of ?_ | refine gopen_of ?_)<;>simp(disch:=first | omega | (simp only[Lx];omega))only[go_sem,simprocAttr,hi,c1,c3,c4,cut_eq,←hprev,hA2,Bool.not_false,Bool.not_true])
    exact bad3 (hbr.2 (.inl hA))
   have hsel:(¬(0:Int)<(k:Int)∧¬(0:Int)<(k:Int))∨((0:Int)<(k:Int)∧Op.bytesLess prev raw=true):=by
    by_cases h:0<k
    ·exact .inr ⟨by omega,by
      cases h2:Op.bytesLess prev raw with
      | true=>rfl
      | false=>exact absurd ⟨h,h2⟩ hA⟩
    ·exact .inl ⟨by omega,by omega⟩
   by_cases hB:k<fc
   ·have hiB:(k:Int)<(fc:Int):=by omega
    rcases hsel with⟨hi,hA2⟩ | ⟨hi,hA2⟩
    ·simp(disch:=first | omega | (simp only[Lx];omega))only[go_sem,simprocAttr,hi,c1,c3,c4,c5,cut_eq,←hprev,Bool.not_false,Bool.not_true,fmid_drop,fmid_len,Nat.mul_one,hch,hf0,hf1]
     (repeat(first | refine gskip_of ?_ | refine gcskip_of ?_ | refine gopen_of ?_)<;>simp(disch:=first | omega | (simp only[Lx];omega))only[go_sem,simprocAttr,hi,c1,c3,c4,c5,cut_eq,←hprev,Bool.not_false,Bool.not_true,fmid_drop,fmid_len,Nat.mul_one,hch,hf0,hf1])
     exact bad3 (hbr.2 (.inr (.inl hB)))
    ·simp(disch:=first | omega | (simp only[Lx];omega))only[go_sem,simprocAttr,hi,hA2,c1,c3,c4,c5,cut_eq,←hprev,Bool.not_false,Bool.not_true,fmid_drop,fmid_len,Nat.mul_one,hch,hf0,hf1]
     (repeat(first | refine gskip_of ?_ | refine gcskip_of ?_ | refine gopen_of ?_)<;>simp(disch:=first | omega | (simp only[Lx];omega))only[go_sem,simprocAttr,hi,hA2,c1,c3,c4,c5,cut_eq,←hprev,Bool.not_false,Bool.not_true,fmid_drop,fmid_len,Nat.mul_one,hch,hf0,hf1])
     exact bad3 (hbr.2 (.inr (.inl hB)))
   have hiB:¬(k:Int)<(fc:Int):=by omega
   by_cases hC:fd≤k
   ·have hiC:(fd:Int)≤(k:Int):=by omega
    rcases hsel with⟨hi,hA2⟩ | ⟨hi,hA2⟩
    ·simp(disch:=first | omega | (simp only[Lx];omega))only[go_sem,simprocAttr,hi,hiB,hiC,c1,c3,c4,c5,cut_eq,←hprev,Bool.not_false,Bool.not_true,fmid_drop,fmid_len,Nat.mul_one,hch,hf0,hf1]
     (repeat(first | refine gskip_of ?_ | refine gcskip_of ?_ | refine gopen_of ?_)<;>simp(disch:=first | omega | (simp only[Lx];omega))only[go_sem,simprocAttr,hi,hiB,hiC,c1,c3,c4,c5,cut_eq,←hprev,Bool.not_false,Bool.not_true,fmid_drop,fmid_len,Nat.mul_one,hch,hf0,hf1])
     exact bad3 (hbr.2 (.inr (.inr hC)))
    ·simp(disch:=first | omega | (simp only[Lx];omega))only[go_sem,simprocAttr,hi,hiB,hiC,hA2,c1,c3,c4,c5,cut_eq,←hprev,Bool.not_false,Bool.not_true,fmid_drop,fmid_len,Nat.mul_one,hch,hf0,hf1]
     (repeat(first | refine gskip_of ?_ | refine gcskip_of ?_ | refine gopen_of ?_)<;>simp(disch:=first | omega | (simp only[Lx];omega))only[go_sem,simprocAttr,hi,hiB,hiC,hA2,c1,c3,c4,c5,cut_eq,←hprev,Bool.not_false,Bool.not_true,fmid_drop,fmid_len,Nat.mul_one,hch,hf0,hf1])
     exact bad3 (hbr.2 (.inr (.inr hC)))
   have hiC:¬(fd:Int)≤(k:Int):=by omega
   rcases hsel with⟨hi,hA2⟩ | ⟨hi,hA2⟩
   all_goals
    simp(disch:=first | omega | (simp only[Lx];omega))only[go_sem,simprocAttr,hi,hiB,hiC,hA2,c1,c3,c4,c5,cut_eq,←hprev,Bool.not_false,Bool.not_true,fmid_drop,fmid_len,Nat.mul_one,hch,hf0,hf1]
    (repeat(first | refine gskip_of ?_ | refine gcskip_of ?_ | refine gopen_of ?_)<;>simp(disch:=first | omega | (simp only[Lx];omega))only[go_sem,simprocAttr,hi,hiB,hiC,hA2,c1,c3,c4,c5,cut_eq,←hprev,Bool.not_false,Bool.not_true,fmid_drop,fmid_len,Nat.mul_one,hch,hf0,hf1])
    have d1:((1032:Int)+24*(n:Int)+4*(k:Int)).toNat=1032+24*n+4*k:=by omega
    have d2:((1032:Int)+24*(n:Int)+4*(k:Int)+4).toNat-(1032+24*n+4*k)=4:=by omega
    have d3:((1032:Int)+20*(n:Int)+4*(k:Int)).toNat=1032+20*n+4*k:=by omega
    have d4:((1032:Int)+20*(n:Int)+4*(k:Int)+4).toNat-(1032+20*n+4*k)=4:=by omega
    have hbn:=frombig8_ok (cutB s (1032+24*n+4*k) 4) (by rw[cut_len (by omega)];omega)
    have hbc:=frombig8_ok (cutB s (1032+20*n+4*k) 4) (by rw[cut_len (by omega)];omega)
    have hnl:nearN s n k<4294967296:=big_lt (n:=4) (by rw[cut_len (by omega)];omega)
    have hcl:bigM (cutB s (1032+20*n+4*k) 4)<4294967296:=big_lt (n:=4) (by rw[cut_len (by omega)];omega)
    rw[d1,d2]
    refine call_ro hbn rfl rfl ?_
    change nearN s n k<4294967296 at hnl
    rw[show bigM (cutB s (1032+24*n+4*k) 4)=nearN s n k from rfl]
    have hnb:¬badR s k:=fun h=>by
     rcases hbr.1 h with h | h | h
     ·exact hA h
     ·exact hB h
     ·exact hC h
    have hpl:placeN s n k=if 2147483648≤nearN s n k then bigM (cutB F (8*(nearN s n k-2147483648)) 8)else nearN s n k:=by unfold placeN;rw[←hF]
    have hrp:rowP s n k=(if 2147483648≤nearN s n k∧farN s n/8≤nearN s n k-2147483648 then .error 3
     else if 1099511627776<placeN s n k then .error 2
     else .ok (Sh.hexOf raw,placeN s n k,bigM (cutB s (1032+20*n+4*k) 4))):=by unfold rowP;rw[if_neg hnb,hraw]
    obtain⟨q,hq⟩:∃q,q=nearN s n k:=⟨_,rfl⟩
    obtain⟨cr,hcr⟩:∃cr,cr=bigM (cutB s (1032+20*n+4*k) 4):=⟨_,rfl⟩
    rw[←hq]at hnl hpl hrp
    rw[←hcr]at hcl hrp hbc
    rw[←hq]
    have hpb:placeN s n k<18446744073709551616:=by
     rw[hpl]
     split
     ·exact Nat.lt_of_lt_of_le (big_lt (n:=8) (by unfold cutB;rw[List.length_take];exact Nat.min_le_left ..)) (by decide)
     ·omega
    simp(disch:=first | omega | (simp only[Lx];omega))only[go_sem,simprocAttr]
    refine vcW_cut (y:=Cod.xparse_29) hN (fun _:Unit=>⟨[(0,.str s),(4,.vptr 240019 0),(6,.int .i64 n),(7,.str F),(8,.int .i64 k),(9,.str raw),(10,.int .u64 (placeN s n k:Nat)),(80,.int .i64 n),(81,.int .i64 k)],[(240019,.var (.sl 240196 0 l.length::(fanA s 256++[.str []]))),(240196,.arr 3 (rowsA l))]⟩) (fun _=>¬(2147483648≤q∧farN s n/8≤q-2147483648)) (fun R3 hR3=>?_) ?_
    ·by_cases hf:2147483648≤q
     ·have hif:(2147483648:Int)≤(q:Int):=by omega
      rw[if_pos hf]at hpl
      simp(disch:=first | omega | (simp only[Lx];omega))only[go_sem,simprocAttr,hif]
      obtain⟨j,hj⟩:∃j,j=q-2147483648:=⟨_,rfl⟩
      have e1:((q:Int)-2147483648)=(j:Int):=by omega
      by_cases hg:farN s n/8≤j
      ·have hig:((farN s n:Nat):Int)/8≤(j:Int):=by omega
       simp(disch:=first | omega | (simp only[Lx];omega))only[go_sem,simprocAttr,e1,efl,hig]
       exact badr 3 (by rw[hrp,if_pos ⟨hf,by omega⟩])
      ·have hig:¬((farN s n:Nat):Int)/8≤(j:Int):=by omega
       have h8:=frombig8_ok (cutB F (8*j) 8) (by rw[cut_len (by omega)];omega)
       have d5:((8:Int)*(j:Int)).toNat=8*j:=by omega
       have d6:((8:Int)*(j:Int)+8).toNat-8*j=8:=by omega
       simp(disch:=first | omega | (simp only[Lx];omega))only[go_sem,simprocAttr,e1,efl,hig,d5,d6,cut_eq]
       refine call_ro h8 rfl rfl ?_
       rw[←hj]at hpl
       rw[←hpl]
       simp(disch:=first | omega | (simp only[Lx];omega))only[go_sem,simprocAttr]
       exact hR3 () _ (fun h=>hg (by omega)) (.le (by simp(disch:=first | omega | (simp only[Lx];omega))only[go_sem,simprocAttr]))
     ·have hif:¬(2147483648:Int)≤(q:Int):=by omega
      rw[if_neg hf]at hpl
      simp(disch:=first | omega | (simp only[Lx];omega))only[go_sem,simprocAttr,hif]
      exact hR3 () _ (fun h=>hf h.1) (.le (by rw[hpl];simp(disch:=first | omega | (simp only[Lx];omega))only[go_sem,simprocAttr]))
    ·intro _ hng
     rw[if_neg hng]at hrp
     obtain⟨pl,hpl2⟩:∃pl,pl=placeN s n k:=⟨_,rfl⟩
     rw[←hpl2]at hrp
     rw[←hpl2]
     by_cases hbig:1099511627776<pl
     ·have hib:(1099511627776:Int)<(pl:Int):=by omega
      simp(disch:=first | omega | (simp only[Lx];omega))only[go_sem,simprocAttr,hib]
      exact badr 2 (by rw[hrp,if_pos hbig])
     ·have hib:¬(1099511627776:Int)<(pl:Int):=by omega
      rw[if_neg hbig]at hrp
      have hhex:=Sh.hex_ok raw (by omega)
      simp(disch:=first | omega | (simp only[Lx];omega))only[go_sem,simprocAttr,hib,d3,d4,cut_eq]
      refine call_ro hhex rfl rfl ?_
      simp(disch:=first | omega | (simp only[Lx];omega))only[go_sem,simprocAttr]
      refine call_ro hbc rfl rfl ?_
      simp(disch:=first | omega | (simp only[Lx];omega))only[go_sem,simprocAttr,rowsA_len]
      rw[rowsA_sub,rowsA_app]
      refine⟨⟨rowsA_cells,by omega⟩,hR2 (k+1,l++[(Sh.hexOf raw,pl,cr)]) _ (by simp only;omega) ⟨by simp only;omega,by simp only;unfold rowsP;rw[hrows];simp only[hrp]⟩ (.le (by rw[List.length_append,List.length_singleton];simp(disch:=first | omega | (simp only[Lx];omega))only[go_sem,simprocAttr,List.map_append,fan_kill,List.map_cons,List.map_nil]))⟩
  ·obtain rfl:k=n:=by omega
   rw[hrows]at hb0
   simp only at hb0
   have m1:((s.length:Int)-20).toNat=s.length-20:=by omega
   have m2:((s.length:Int)-40).toNat=s.length-40:=by omega
   have m3:s.length-20-(s.length-40)=20:=by omega
   have hsum:=Sh.sum1_ok (s.take (s.length-20)) (by rw[List.length_take];omega)
   have hhx:=Sh.hex_ok (cutB s (s.length-40) 20) (by rw[cut_len (by omega)];omega)
   simp(disch:=first | omega | (simp only[Lx];omega))only[go_sem,simprocAttr,m1]
   refine call_ro hsum rfl rfl ?_
   by_cases hsh:Sh.sha1 (s.take (s.length-20))=s.drop (s.length-20)
   ·simp(disch:=first | omega | (simp only[Lx];omega))only[go_sem,simprocAttr,hsh,m1,m2,m3,cut_eq]
    refine call_ro hhx rfl rfl ?_
    have htk:(fanA s 256++[AV.str []]).take 257=fanA s 256:=List.take_left' hfl
    obtain⟨sm,hsm⟩:∃sm,sm=Sh.hexOf (cutB s (s.length-40) 20):=⟨_,rfl⟩
    rw[←hsm]at hb0
    rw[←hsm]
    simp(disch:=first | omega | (simp only[Lx];omega))only[go_sem,simprocAttr,htk,List.append_nil]
    have hb1:parseP s=.ok (l,sm):=by rw[hb0,if_neg (fun h=>h hsh)]
    refine hR.wk (h':=[]) (r':=.tup [idxA s (l,sm),.int .i64 0]) (ar':=[.undef]) rfl (.frz 240196 (.frzT 0 0 240019 [.vptr 240019 0,.int .i64 0] (.ro 3 (rowsA l)::(fanA s 256++[.str sm])) (by simp(disch:=first | omega | (simp only[Lx];omega))only[go_sem,simprocAttr]) (by rfl) ?_ ?_ (.le ?_))) ⟨rfl,by rw[hb1];rfl⟩
    ·simp(disch:=first | omega | (simp only[Lx];omega))only[go_sem,simprocAttr,List.map_append,fan_frz,rowsA_sub,rowsA_len]
    ·simp[noRefC,fan_ref]
    ·simp(disch:=first | omega | (simp only[Lx];omega))only[go_sem,simprocAttr,idxA]
   ·simp(disch:=first | omega | (simp only[Lx];omega))only[go_sem,simprocAttr,hsh]
    exact bad 5 (by rw[hb0,if_pos hsh])
end Go.Proofs.YthmkimlfnkghmaaGreatDoor.Ls
namespace Go.Proofs.YthmkimlfnkghmaaGreatDoor.Ls
open Eng
set_option maxRecDepth 10000
abbrev kf (L:List Rw):List Fi:=L.map fun r=>(r.1,[])
theorem kf_len (L:List Rw):(kf L).length=L.length:=List.length_map ..
theorem kf_get (L:List Rw) (i:Nat):((kf L).getD i noF).1=(L.getD i noR).1:=by
 rw[List.getD_eq_getElem?_getD,List.getD_eq_getElem?_getD,List.getElem?_map]
 cases L[i]?<;>rfl
theorem xlen_ok (s:Bs) (p:List Rw×Bs):SpecR Tryz.prog 23 [idxA s p] (.int .i64 p.1.length):=by
 refine Cod.xlen_spec (fun E R hN hR=>?_)
 simp(disch:=first | omega | (simp only[Lx];omega))only[go_sem,simprocAttr,rowsA_len]
 exact hR.ro ⟨rfl,rfl⟩
theorem xsum_ok (s:Bs) (p:List Rw×Bs):SpecR Tryz.prog 25 [idxA s p] (.str p.2):=by
 refine Cod.xsum_spec (fun E R hN hR=>?_)
 have h:(fanA s 256++[AV.str p.2]).getD 257 .undef=.str p.2:=by rw[List.getD_eq_getElem?_getD,List.getElem?_append_right (by rw[fan_len];omega),fan_len];rfl
 have hl:=fan_len s 256
 simp(disch:=first | omega | (simp only[Lx];omega))only[go_sem,simprocAttr,h]
 exact hR.ro ⟨rfl,rfl⟩
theorem xcmp_ok (r:Rw) (t:Bs):SpecR Tryz.prog 50 [rowA r,.str t] (.int .i64 (Lib.compareBytes r.1 t)):=by
 refine Cod.xcmp_spec (fun E R hN hR=>?_)
 simp(disch:=first | omega | (simp only[Lx];omega))only[go_sem,simprocAttr,rowA]
 refine call_ro (compare_ok r.1 t) rfl rfl ?_
 simp(disch:=first | omega | (simp only[Lx];omega))only[go_sem,simprocAttr]
 exact hR.ro ⟨rfl,rfl⟩
abbrev fnV (f:Nat):Value:=.func (.func f) #[] #[]
theorem rsearch_ok (f:Nat) (hf:callable Tryz.prog f=true) (hsp:∀(r:Rw) (t:Bs),SpecR Tryz.prog f [rowA r,.str t] (.int .i64 (Lib.compareBytes r.1 t))) (L:List Rw) (t:Bs) (hs:Srt (kf L)) (hl:L.length≤100000) :
    SpecR Tryz.prog 49 [.ro 3 (rowsA L),.str t,.lit (fnV f)] (foundA t (kf L)):=by
 refine Cod.rsearch_spec (fun E R hN hR=>?_)
 have hp:=pos_le t (kf L)
 have hkl:=kf_len L
 simp(disch:=first | omega | (simp only[Lx];omega))only[go_sem,simprocAttr,rowsA_len]
 refine vcW_loop hN (fun p:Nat×Nat=>⟨[(0,.ro 3 (rowsA L)),(1,.str t),(2,.lit (fnV f)),(8,.int .i64 L.length),(9,.int .i64 p.1),(10,.int .i64 p.2)],[]⟩) (fun p=>p.1≤posF t (kf L)∧posF t (kf L)≤p.2∧p.2≤L.length) (fun p=>p.2-p.1) (0,L.length) (.le (by simp(disch:=first | omega | (simp only[Lx];omega))only[go_sem,simprocAttr])) ⟨Nat.zero_le _,by omega,Nat.le_refl _⟩ ?_
 rintro⟨i,j⟩ R1 ⟨h1,h2,h3⟩ hR1
 simp only at h1 h2 h3
 by_cases hlt:i<j
 ·have hm:IntKind.i64.wrap (((i:Int)+(j:Int)).fdiv (2^min 1 64))=(((i+j)/2:Nat):Int):=by
   rw[show(2:Int)^min 1 64=2 from rfl,Int.fdiv_eq_ediv_of_nonneg _ (by decide)]
   rw[wrap_id ⟨by omega,by omega⟩]
   omega
  have hk:(i+j)/2<L.length:=by omega
  have hpi:=pos_iff t hs (k:=(i+j)/2) (by omega)
  obtain⟨k,hk0⟩:∃k,k=(i+j)/2:=⟨_,rfl⟩
  rw[←hk0]at hm hk hpi
  rw[kf_get]at hpi
  have hik:i≤k:=by omega
  have hkj:k<j:=by omega
  clear hk0
  simp(disch:=first | omega | (simp only[Lx];omega))only[go_sem,simprocAttr,rowsA_len,hm,nth_rows]
  refine dyn_to hf ?_
  refine call_ro (hsp (L.getD k noR) t) rfl rfl ?_
  generalize Lib.compareBytes (L.getD k noR).1 t=c at *
  by_cases hc:c<0
  ·simp(disch:=first | omega | (simp only[Lx];omega))only[go_sem,simprocAttr,hc]
   exact hR1 (k+1,j) _ (by simp only;omega) ⟨by simp only;omega,by simp only;omega,h3⟩ (.le (by simp(disch:=first | omega | (simp only[Lx];omega))only[go_sem,simprocAttr]))
  ·simp(disch:=first | omega | (simp only[Lx];omega))only[go_sem,simprocAttr,hc]
   exact hR1 (i,k) _ (by simp only;omega) ⟨h1,by simp only;omega,by simp only;omega⟩ (.le (by simp(disch:=first | omega | (simp only[Lx];omega))only[go_sem,simprocAttr]))
 ·obtain rfl:i=j:=by omega
  obtain rfl:i=posF t (kf L):=by omega
  by_cases hlt:posF t (kf L)<L.length
  ·have hi:((posF t (kf L):Nat):Int)<(L.length:Int):=by omega
   have hz:∀a:Bs,(Lib.compareBytes a t=0)↔a=t:=fun a=>⟨cb_zero,fun e=>by rw[e];exact cb_refl t⟩
   have hz:=hz (L.getD (posF t (kf L)) noR).1
   simp(disch:=first | omega | (simp only[Lx];omega))only[go_sem,simprocAttr,rowsA_len,hi,nth_rows]
   (repeat(first | refine gskip_of ?_ | refine gcskip_of ?_ | refine gopen_of ?_)<;>simp(disch:=first | omega | (simp only[Lx];omega))only[go_sem,simprocAttr,rowsA_len,hi,nth_rows])
   refine gdyes_of hf ?_
   refine callT_ro (by simp(disch:=first | omega | (simp only[Lx];omega))only[go_sem,simprocAttr,rowA]) (hsp (L.getD (posF t (kf L)) noR) t) (by simp(disch:=first | omega | (simp only[Lx];omega))only[go_sem,simprocAttr]) rfl rfl ?_
   have hfo:∀b:Bool,decide (Lib.compareBytes (L.getD (posF t (kf L)) noR).1 t=0)=b→foundA t (kf L)=.tup [.int .i64 (posF t (kf L):Nat),.bool b]:=by
    intro b hb
    unfold foundA
    rw[kf_get,←hb,decide_eq_decide.2 (⟨fun h=>hz.2 h.2,fun h=>⟨by omega,hz.1 h⟩⟩:(posF t (kf L)<(kf L).length∧(L.getD (posF t (kf L)) noR).1=t)↔Lib.compareBytes (L.getD (posF t (kf L)) noR).1 t=0)]
   generalize Lib.compareBytes (L.getD (posF t (kf L)) noR).1 t=c at *
   by_cases hc:c=0
   ·simp(disch:=first | omega | (simp only[Lx];omega))only[go_sem,simprocAttr,hc]
    (repeat(first | refine gskip_of ?_ | refine gcskip_of ?_ | refine gopen_of ?_)<;>simp(disch:=first | omega | (simp only[Lx];omega))only[go_sem,simprocAttr,hc])
    exact hR.ro ⟨rfl,(hfo true (by simp[hc])).symm⟩
   ·simp(disch:=first | omega | (simp only[Lx];omega))only[go_sem,simprocAttr,hc]
    (repeat(first | refine gskip_of ?_ | refine gcskip_of ?_ | refine gopen_of ?_)<;>simp(disch:=first | omega | (simp only[Lx];omega))only[go_sem,simprocAttr,hc])
    exact hR.ro ⟨rfl,(hfo false (by simp[hc])).symm⟩
  ·simp(disch:=first | omega | (simp only[Lx];omega))only[go_sem,simprocAttr,rowsA_len,hlt]
   (repeat(first | refine gskip_of ?_ | refine gcskip_of ?_ | refine gopen_of ?_)<;>simp(disch:=first | omega | (simp only[Lx];omega))only[go_sem,simprocAttr,rowsA_len,hlt])
   refine gdskip_of ?_
   simp(disch:=first | omega | (simp only[Lx];omega))only[go_sem,simprocAttr,hlt]
   (repeat(first | refine gskip_of ?_ | refine gcskip_of ?_ | refine gopen_of ?_)<;>simp(disch:=first | omega | (simp only[Lx];omega))only[go_sem,simprocAttr,hlt])
   exact hR.ro ⟨rfl,by unfold foundA;rw[decide_eq_false (fun h:_∧_=>hlt (by have:=h.1;omega))]⟩
abbrev matchP (t:Bs) (L:List Rw):List Bs:=underF t (kf L)
set_option maxHeartbeats 1000000 in
theorem xmatch_ok (s:Bs) (p:List Rw×Bs) (t:Bs) (hs:Srt (kf p.1)) (hl:p.1.length≤100000) (ht:t.length≤9223372036854775807) (hp:∀r∈p.1,r.1.length≤9223372036854775807) :
    SpecR Tryz.prog 28 [idxA s p,.str t] (.ro 1 (strsA (matchP t p.1))):=by
 refine Cod.xmatch_spec (fun E R hN hR=>?_)
 have hfl:=fan_len s 256
 obtain⟨L,sm⟩:=p
 simp only at hs hl hp hR ⊢
 simp(disch:=first | omega | (simp only[Lx];omega))only[go_sem,simprocAttr]
 refine call_ro (rsearch_ok _ (by kernel_rfl) xcmp_ok L t hs hl) rfl rfl ?_
 have hpl:=pos_le t (kf L)
 have hkl:=kf_len L
 obtain⟨o,ho⟩:∃o,o=posF t (kf L):=⟨_,rfl⟩
 unfold matchP underF at hR
 rw[←ho]at hpl hR
 simp(disch:=first | omega | (simp only[Lx];omega))only[go_sem,simprocAttr,←ho]
 obtain⟨D,hD⟩:∃D,D=(kf L).drop o:=⟨_,rfl⟩
 have hDl:D.length=L.length-o:=by rw[hD,List.length_drop,hkl]
 rw[←hD]at hR
 refine vcW_loop hN (fun k:Nat=>⟨[(0,idxA s (L,sm)),(1,.str t),(5,.sl 243048 0 (D.take k).length),(6,.int .i64 ((o+k:Nat):Int))],[(243048,.arr 1 (strsA ((D.take k).map (·.1))))]⟩)
  (fun k=>k≤D.length∧(D.take k).all (fun f=>begB t f.1)=true) (fun k=>D.length-k) 0 (.nil 5 243048 1 rfl (.le (by simp(disch:=first | omega | (simp only[Lx];omega))only[go_sem,simprocAttr,strs_nil,List.take_zero,List.map_nil,List.length_nil,Nat.add_zero]))) ⟨Nat.zero_le _,by simp⟩ ?_
 rintro k R1 ⟨hk,hall⟩ hR1
 have htl:(D.take k).length=k:=by rw[List.length_take];omega
 have hsub:sub3 (strsA ((D.take k).map (·.1))) 0 k=strsA ((D.take k).map (·.1)):=by
  unfold sub3
  rw[List.drop_zero,List.take_of_length_le (by rw[strs_len,List.length_map,htl];omega)]
 have fin:(D.length≤k∨begB t (D.getD k noF).1=false)→D.takeWhile (fun f=>begB t f.1)=D.take k:=fun h=>tw_take noF hall h
 by_cases hlt:k<D.length
 ·have hsn:=take_snoc noF D hlt
  have hgd:(L.getD (o+k) noR).1=(D.getD k noF).1:=by rw[hD,drop_getD,kf_get]
  have hmem:(L.getD (o+k) noR).1.length≤9223372036854775807:=hp _ (getD_mem noR (by omega))
  rw[hgd]at hmem
  have hi:((o+k:Nat):Int)<(L.length:Int):=by omega
  rw[htl]
  simp(disch:=first | omega | (simp only[Lx];omega))only[go_sem,simprocAttr,rowsA_len,hi,nth_rows,hgd]
  (repeat(first | refine gskip_of ?_ | refine gcskip_of ?_ | refine gopen_of ?_)<;>simp(disch:=first | omega | (simp only[Lx];omega))only[go_sem,simprocAttr,rowsA_len,hi,nth_rows,hgd])
  refine gcyes_of (callT_ro (by simp(disch:=first | omega | (simp only[Lx];omega))only[go_sem,simprocAttr]) (shasprefix_ok _ t hmem ht) (by simp(disch:=first | omega | (simp only[Lx];omega))only[go_sem,simprocAttr]) rfl rfl ?_)
  generalize hx:D.getD k noF=x at *
  by_cases hb:begB t x.1=true
  ·simp(disch:=first | omega | (simp only[Lx];omega))only[go_sem,simprocAttr,hb,rowsA_len,nth_rows,hgd,strs_len,List.length_map,htl]
   rw[hsub,strs_app]
   refine⟨⟨strs_cells,by omega⟩,hR1 (k+1) _ (by omega) ⟨by omega,by rw[hsn,List.all_append,hall];simp[hb]⟩ (.le ?_)⟩
   rw[hsn,List.length_append,htl,List.map_append]
   simp(disch:=first | omega | (simp only[Lx];omega))only[go_sem,simprocAttr,List.map_cons,List.map_nil,List.length_singleton]
  ·have hb:begB t x.1=false:=by simpa using hb
   rw[fin (.inr hb)]at hR
   simp(disch:=first | omega | (simp only[Lx];omega))only[go_sem,simprocAttr,hb]
   exact hR.wk (h':=[]) (r':=.ro 1 (strsA ((D.take k).map (·.1)))) (ar':=[.undef,.undef]) rfl (.frz 243048 (.le (by simp(disch:=first | omega | (simp only[Lx];omega))only[go_sem,simprocAttr,strs_len,List.length_map,htl,strs_cells,hsub]))) ⟨rfl,rfl⟩
 ·have hi:¬((o+k:Nat):Int)<(L.length:Int):=by omega
  rw[fin (.inl (by omega))]at hR
  have hDk:D.take k=D:=List.take_of_length_le (by omega)
  rw[hDk]at hsub hR htl
  rw[hDk,htl]
  simp(disch:=first | omega | (simp only[Lx];omega))only[go_sem,simprocAttr,rowsA_len,hi]
  (repeat(first | refine gskip_of ?_ | refine gcskip_of ?_ | refine gopen_of ?_)<;>simp(disch:=first | omega | (simp only[Lx];omega))only[go_sem,simprocAttr,rowsA_len,hi])
  exact hR.wk (h':=[]) (r':=.ro 1 (strsA (D.map (·.1)))) (ar':=[.undef,.undef]) rfl (.frz 243048 (.le (by simp(disch:=first | omega | (simp only[Lx];omega))only[go_sem,simprocAttr,strs_len,List.length_map,htl,strs_cells,hsub]))) ⟨rfl,rfl⟩
end Go.Proofs.YthmkimlfnkghmaaGreatDoor.Ls
