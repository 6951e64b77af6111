/- The proof, part 4 of 51. -/
import Derived.Test.YtgghhaahnpbnmaaGreatDoorCartularyWalksC
import Derived.Laws.Tables
import Derived.MapKept
set_option linter.all false
namespace Go.Proofs.YtgghhaahnpbnmaaGreatDoor.Eng
section
variable {P:Program} {E:Env} {ρ:Loc} {st:St} {a:Act} {w:World} {γ:Bool} {K:AV->Prop}
theorem RV.lp {X:Nat->Prop} {v:Value} {s:List UInt8} (h:RV X w ρ v (.str s)):v=.string ⟨s.toArray⟩:=by cases h;rfl
theorem RV.jh {X:Nat->Prop} {v:Value} {b:Bool} (h:RV X w ρ v (.bool b)):v=.bool b:=by cases h;rfl
theorem RV.Cz {X:Nat->Prop} {v:Value} {k:FloatKind} {b:Nat} (h:RV X w ρ v (.fl k b)):v=.float k b:=by cases h;rfl
theorem RV.Bz {X:Nat->Prop} {v:Value} {k:FloatKind} {b c:Nat} (h:RV X w ρ v (.cx k b c)):v=.complex k b c:=by cases h;rfl
theorem mC (l:List UInt8):(⟨l.toArray⟩:ByteArray).size=l.length:=by simp[ByteArray.size]
theorem Jt (l:List UInt8) (i:Nat) (h:i<l.length):(⟨l.toArray⟩:ByteArray)[i]?=some (l.getD i 0):=by
 rw[acC,List.getElem?_eq_getElem h];rw[getElem?_pos _ i (by simpa[ByteArray.size]using h)];rfl
theorem sr (s:List UInt8) (l h:Nat):(⟨s.toArray⟩:ByteArray).extract l h=⟨((s.drop l).take (h-l)).toArray⟩:=by
 apply ByteArray.ext;simp[ByteArray.data_extract,List.extract_eq_take_drop]
theorem callBuiltin_run {b:Builtin} {c:Call} {o:Oper} (ho:o.op=.call c) (hc:c.callee=.builtin b) :
    (execOp a.eval o).run P w=(builtin b c.argTypes o.type (c.args.map λ| .const _=>true | _=>false) (c.args.map a.eval)).run P w:=by
 unfold execOp;simp[ho,resolve,hc,invoke];rfl
theorem IW {t:TypeId} {ty:TypeId} {b:Bool} (ht:lenT P t=some b) {v:Value} {x:AV} (hx:RV (XX E.X0 ρ st.h) w ρ v x) (hl:avalLen b x K) :
    ∃v' av,fa P w (Builtin.len_ #[t] ty #[v]) v'/\RV (XX E.X0 ρ st.h) w ρ v' av/\K av:=by
 unfold lenT at ht;split at ht
 ·rename_i hu;obtain rfl:=Option.some.inj ht;unfold avalLen at hl;split at hl
  ·rename_i l e;cases e;rw[RV.lp hx];exact⟨.int .i64 l.length,_,λw' _=>by simp[Builtin.len_,run_underlying hu,goInt,mC],.int _ _ _,hl⟩
  ·rename_i h;cases h
  ·rename_i h;cases h
  ·rename_i h;cases h
  exact hl.elim
 ·rename_i e hu;obtain rfl:=Option.some.inj ht;unfold avalLen at hl;split at hl
  ·rename_i h;cases h
  ·cases hx;rename_i sz es A c vs hc au hlen hcell hrel _;exact⟨.int .i64 es.length,_,λw' _=>by simp[Builtin.len_,run_underlying hu,goInt],.int _ _ _,hl⟩
  ·rename_i n _;cases hx;exact⟨.int .i64 n,_,λw' _=>by simp[Builtin.len_,run_underlying hu,goInt],.int _ _ _,hl⟩
  ·cases hx;exact⟨.int .i64 0,_,λw' _=>by simp[Builtin.len_,run_underlying hu,goInt],.int _ _ _,hl⟩
  exact hl.elim
 ·cases ht
theorem run_complex (ts:Array TypeId) (ty:TypeId) (k:FloatKind) (x y:Nat):(Builtin.complex_ ts ty #[.float k x,.float k y]).run P w=.ok (.complex k x y) w:=by
 show((if k=k then pure (.complex k x y)else stuck _:Sem Value)).run P w=_
 rw[if_pos rfl];rfl
theorem Kx (h:af E ρ st a w) {c:Call} {o:Oper} (ho:o.op=.call c) (hv:aval γ st (trCall P c) K) (hγ:γ=true) :
    vO P E ρ st w (execOp a.eval o) K:=by
 obtain⟨callee,args,argTypes⟩:=c;obtain⟨args⟩:=args;obtain⟨argTypes⟩:=argTypes;unfold trCall at hv;simp only at hv;split at hv
 ·rename_i x t;split at hv
  ·rename_i hlt;obtain⟨av,h1,h2⟩:=aQ h (x:=x) hv hγ;obtain⟨v',av',g1,g2,g3⟩:=IW (P:=P) (E:=E) (ty:=o.type) hlt h1 h2;exact⟨v',av',λw' hs=>by rw[callBuiltin_run ho rfl];simp[builtin,g1 w' hs],g2,g3⟩
  exact hv.elim
 ·rename_i x y;obtain⟨av,h1,h2⟩:=aQ h (x:=x) hv hγ;obtain⟨av',h1',h2'⟩:=aQ h (x:=y) h2 hγ;split at h2'
  ·obtain⟨rfl,h3⟩:=h2';exact⟨_,_,λw' _=>by rw[callBuiltin_run ho rfl];simp[builtin,RV.Cz h1,RV.Cz h1',run_complex],.cx _ _ _ _,h3⟩
  exact h2'.elim
 ·rename_i x;obtain⟨av,h1,h2⟩:=aQ h (x:=x) hv hγ;split at h2;exact⟨_,_,λw' _=>by rw[callBuiltin_run ho rfl];simp[builtin,RV.Bz h1,run_real],.fl _ _ _,h2⟩;exact h2.elim
 ·rename_i x;obtain⟨av,h1,h2⟩:=aQ h (x:=x) hv hγ;split at h2;exact⟨_,_,λw' _=>by rw[callBuiltin_run ho rfl];simp[builtin,RV.Bz h1,run_imag],.fl _ _ _,h2⟩;exact h2.elim
 ·rename_i x y;obtain⟨av,h1,h2⟩:=aQ h (x:=x) hv hγ;obtain⟨av',h1',h2'⟩:=aQ h (x:=y) h2 hγ;unfold nV at h2';split at h2'
  ·refine⟨_,_,λw' _=>?_,.int _ _ _,h2'⟩;rw[callBuiltin_run ho rfl];simp[builtin,RV.eT h1,RV.eT h1',Builtin.max_,Builtin.max2]
  exact h2'.elim
 ·rename_i x y;obtain⟨av,h1,h2⟩:=aQ h (x:=x) hv hγ;obtain⟨av',h1',h2'⟩:=aQ h (x:=y) h2 hγ;unfold nV at h2';split at h2'
  ·refine⟨_,_,λw' _=>?_,.int _ _ _,h2'⟩;rw[callBuiltin_run ho rfl];simp[builtin,RV.eT h1,RV.eT h1',Builtin.min_,Builtin.min2]
  exact h2'.elim
 ·split at hv
  ·split at hv
   ·split at hv<;>exact hv.elim
   exact hv.elim
  ·split at hv
   ·split at hv<;>exact hv.elim
   exact hv.elim
  exact hv.elim
 ·split at hv
  ·split at hv<;>exact hv.elim
  exact hv.elim
 exact hv.elim;exact hv.elim
theorem xc {X:Nat->Prop} {w0:World} {ρ:Loc} {e:TypeId} {k:Nat} {a b:Value} {c d:AV} (hs:sortOf P e=some k) (hok:eqOK k c d=true) (h1:RV X w0 ρ a c) (h2:RV X w0 ρ b d) :
    P.plainKey e=true/\∀(d':Nat) (w:World),(Op.equalIn (d'+1) e a b).run P w=.ok (eqC c d) w:=by
 unfold sortOf at hs;split at hs
 ·rename_i hu;cases hs;refine⟨by simp[Program.plainKey,hu],?_⟩;cases c<;>cases d<;>simp[eqOK]at hok
  intro d' w;rw[RV.jh h1,RV.jh h2];exact run_equalIn_bool' w d' e _ _ hu
 ·rename_i q hu;cases hs;refine⟨by simp[Program.plainKey,hu],?_⟩;cases c<;>cases d<;>simp[eqOK]at hok
  subst hok;intro d' w;rw[RV.eT h1,RV.eT h2,run_equalIn_int w d' e _ q _ _ hu];rfl
 ·rename_i hu;cases hs;refine⟨by simp[Program.plainKey,hu],?_⟩;cases c<;>cases d<;>simp[eqOK]at hok
  intro d' w;generalize h1':a=a' at h1;generalize h2':b=b' at h2;cases h1;cases h2;rw[run_equalIn_string w d' e _ _ hu];simp[eqC,ByteArray.toList_eq]
 ·cases hs
theorem Cc {X:Nat->Prop} {w0:World} {ρ:Loc} (d':Nat) (xs ys:Array Value):∀(fs:List Field) (j:Nat) (ks:List Nat) (cs ds:List AV),sortsL P j fs=some ks->eqOKs ks cs ds=true ->
    (∀i v c,xs[j+i]?=some v->cs[i]?=some c->RV X w0 ρ v c)->(∀i v c,ys[j+i]?=some v->ds[i]?=some c->RV X w0 ρ v c)->j+cs.length<=xs.size->j+ds.length<=ys.size ->
    ∀w,(Op.eqFields (d'+1) xs ys fs).run P w=.ok (eqCs cs ds) w
 | [],j,ks,cs,ds,hs,hok,_,_,_,_=>by
  simp only[sortsL,Option.some.injEq]at hs;subst hs;cases cs<;>cases ds<;>simp[eqOKs]at hok
  intro w
  simp[Op.eqFields,eqCs]
 | f::r,j,ks,cs,ds,hs,hok,hx,hy,hlx,hly=>by
  simp only[sortsL]at hs;split at hs
  ·rename_i hf;simp only[acN,bne_iff_ne,ne_eq,beq_iff_eq]at hf;split at hs
   ·rename_i s l h1 h2;cases hs
    cases cs with
    | nil=>simp[eqOKs]at hok
    | cons c cs=>
     cases ds with
     | nil=>simp[eqOKs]at hok
     | cons d ds=>
      simp only[eqOKs,acN]at hok;simp only[acH]at hlx hly;have ex:xs[j]?=some (xs[j]' acB):=Array.getElem?_eq_getElem _;have ey:ys[j]?=some (ys[j]' acB):=Array.getElem?_eq_getElem _;obtain⟨hp,hrun⟩:=xc h1 hok.1 (hx 0 _ c ex rfl) (hy 0 _ d ey rfl);have ih:=Cc d' xs ys r (j+1) l cs ds h2 hok.2 (λi v c h g=>hx (i+1) v c (by rw[<-h];congr 1;omega) (by simpa using g)) (λi v c h g=>hy (i+1) v c (by rw[<-h];congr 1;omega) (by simpa using g)) acB acB;intro w;simp only[Op.eqFields,hf.1,ne_eq,not_false_eq_true,if_true,Sem.run_bind,hf.2,run_part_plain w hp ex,run_part_plain w hp ey,Result.andThen_ok,hrun d' w];cases h:eqC c d
      ·simp[eqCs,h]
      ·simpa[eqCs,h]using ih w
   ·cases hs
  ·cases hs
theorem Cd:∀(l1 l:List Nat) (cs ds:List AV),eqOKs (l1++l) cs ds=true->∃c1 c2 d1 d2,cs=c1++c2/\ds=d1++d2/\c1.length=l1.length/\d1.length=l1.length/\eqOKs l1 c1 d1=true/\eqOKs l c2 d2=true
 | [],l,cs,ds,h=>⟨[],cs,[],ds,rfl,rfl,rfl,rfl,rfl,h⟩
 | k::l1,l,[],ds,h=>by simp[eqOKs]at h
 | k::l1,l,c::cs,[],h=>by simp[eqOKs]at h
 | k::l1,l,c::cs,d::ds,h=>by
  simp only[acZ,eqOKs,acN]at h;obtain⟨c1,c2,d1,d2,rfl,rfl,h3,h4,h5,h6⟩:=Cd l1 l cs ds h.2;exact⟨c::c1,c2,d::d1,d2,rfl,rfl,by simp[h3],by simp[h4],by simp[eqOKs,h.1,h5],h6⟩
theorem Ca:∀(c1 d1 c2 d2:List AV),c1.length=d1.length->eqCs (c1++c2) (d1++d2)=(eqCs c1 d1&&eqCs c2 d2)
 | [],[],_,_,_=>by simp[eqCs]
 | [],_::_,_,_,h=>by simp at h
 | _::_,[],_,_,h=>by simp at h
 | c::c1,d::d1,c2,d2,h=>by
  simp only[acZ,eqCs,Ca c1 d1 c2 d2 (by simpa using h),Bool.and_assoc]
theorem FK {e:TypeId} {fs:Array Field} (hu:P.underlying e=some (.struct fs)) {xs:Array Value} {off:Nat} (w:World):(part e xs off).run P w=.ok (.agg (xs.extract off (off+P.cellsOf e))) w:=by
 obtain⟨i,hi⟩:=info_of_underlying hu;simp[part,isAgg,run_underlying hu,Go.run_sizeOf w hi]
theorem U1 {X:Nat->Prop} {w0:World} {ρ:Loc} (d':Nat) {e:TypeId} {l1:List Nat} (hn:nestOf P e=some l1) {xs ys:Array Value} {j:Nat} {c1 d1:List AV} (hok:eqOKs l1 c1 d1=true) (hc:c1.length=l1.length) (hd:d1.length=l1.length)
    (hx:∀i v c,xs[j+i]?=some v->c1[i]?=some c->RV X w0 ρ v c) (hy:∀i v c,ys[j+i]?=some v->d1[i]?=some c->RV X w0 ρ v c) (hlx:j+l1.length<=xs.size) (hly:j+l1.length<=ys.size) (w:World) :
    ∃a b,(part e xs j).run P w=.ok a w/\(part e ys j).run P w=.ok b w/\(Op.equalIn (d'+2) e a b).run P w=.ok (eqCs c1 d1) w:=by
 unfold nestOf at hn;split at hn
 ·rename_i fs hu;split at hn
  ·cases hn
  ·rename_i hsi;split at hn
   ·rename_i l hl;split at hn
    ·rename_i hce;cases hn;have hce:P.cellsOf e=l1.length:=by simpa using hce
     have hf:P.fieldsOf e=fs:=by simp[Program.fieldsOf,hu]
     have gx:∀(zs:Array Value),j+l1.length<=zs.size->∀i v,(zs.extract j (j+P.cellsOf e))[i]?=some v->zs[j+i]?=some v:=by
      intro zs hz i v hv;rw[Array.getElem?_extract]at hv;split at hv;exact hv
      ·cases hv
     refine⟨_,_,FK hu w,FK hu w,?_⟩;rw[run_equalIn_struct w (d'+1) e _ _ (by rw[hf];exact hu) (by simpa using hsi),hf]
     exact Cc d' _ _ fs.toList 0 l1 c1 d1 hl hok (λi v c g g'=>hx i v c (gx xs hlx i v (by simpa using g)) g') (λi v c g g'=>hy i v c (gx ys hly i v (by simpa using g)) g')
      (by simp[hc,hce];omega) (by simp[hd,hce];omega) w
    ·cases hn
   ·cases hn
 ·cases hn
theorem xf {X:Nat->Prop} {w0:World} {ρ:Loc} (d':Nat) (xs ys:Array Value):∀(fs:List Field) (j:Nat) (ks:List Nat) (cs ds:List AV),sortsF P j fs=some ks->eqOKs ks cs ds=true ->
    (∀i v c,xs[j+i]?=some v->cs[i]?=some c->RV X w0 ρ v c)->(∀i v c,ys[j+i]?=some v->ds[i]?=some c->RV X w0 ρ v c)->j+cs.length<=xs.size->j+ds.length<=ys.size ->
    ∀w,(Op.eqFields (d'+2) xs ys fs).run P w=.ok (eqCs cs ds) w
 | [],j,ks,cs,ds,hs,hok,_,_,_,_=>by
  simp only[sortsF,Option.some.injEq]at hs;subst hs;cases cs<;>cases ds<;>simp[eqOKs]at hok
  intro w
  simp[Op.eqFields,eqCs]
 | f::r,j,ks,cs,ds,hs,hok,hx,hy,hlx,hly=>by
  simp only[sortsF]at hs;split at hs
  ·rename_i hf;simp only[acN,bne_iff_ne,ne_eq,beq_iff_eq]at hf;split at hs
   ·rename_i s h1;split at hs
    ·rename_i l h2;cases hs
     cases cs with
     | nil=>simp[eqOKs]at hok
     | cons c cs=>
      cases ds with
      | nil=>simp[eqOKs]at hok
      | cons d ds=>
       simp only[eqOKs,acN]at hok;simp only[acH]at hlx hly;have ex:xs[j]?=some (xs[j]' acB):=Array.getElem?_eq_getElem _;have ey:ys[j]?=some (ys[j]' acB):=Array.getElem?_eq_getElem _;obtain⟨hp,hrun⟩:=xc h1 hok.1 (hx 0 _ c ex rfl) (hy 0 _ d ey rfl);have ih:=xf d' xs ys r (j+1) l cs ds h2 hok.2 (λi v c h g=>hx (i+1) v c (by rw[<-h];congr 1;omega) (by simpa using g)) (λi v c h g=>hy (i+1) v c (by rw[<-h];congr 1;omega) (by simpa using g)) acB acB;intro w;simp only[Op.eqFields,hf.1,ne_eq,not_false_eq_true,if_true,Sem.run_bind,hf.2,run_part_plain w hp ex,run_part_plain w hp ey,Result.andThen_ok,hrun (d'+1) w];cases h:eqC c d
       ·simp[eqCs,h]
       ·simpa[eqCs,h]using ih w
    ·cases hs
   ·split at hs
    ·rename_i l1 h1;split at hs
     ·rename_i l h2;cases hs;obtain⟨c1,c2,d1,d2,rfl,rfl,k1,k2,k3,k4⟩:=Cd l1 l cs ds hok;simp only[acD]at hlx hly
      have ih:=xf d' xs ys r (j+l1.length) l c2 d2 h2 k4
       (λi v c h g=>hx (l1.length+i) v c (by rw[<-h];congr 1;omega) (by rw[List.getElem?_append_right acB,<-g];congr 1;omega))
       (λi v c h g=>hy (l1.length+i) v c (by rw[<-h];congr 1;omega) (by rw[List.getElem?_append_right acB,<-g];congr 1;omega)) acB acB
      intro w
      obtain⟨a,b,p1,p2,p3⟩:=U1 (X:=X) (w0:=w0) (ρ:=ρ) d' h1 (xs:=xs) (ys:=ys) (j:=j) k3 k1 k2
       (λi v c h g=>hx i v c h (by have:=(List.getElem?_eq_some_iff.1 g).1;rw[List.getElem?_append_left this];exact g))
       (λi v c h g=>hy i v c h (by have:=(List.getElem?_eq_some_iff.1 g).1;rw[List.getElem?_append_left this];exact g)) acB acB w
      simp only[Op.eqFields,hf.1,ne_eq,not_false_eq_true,if_true,Sem.run_bind,hf.2,p1,p2,Result.andThen_ok,p3];rw[Ca _ _ _ _ acB];cases h:eqCs c1 d1
      ·simp
      ·simpa using ih w
     ·cases hs
    ·cases hs
  ·cases hs
theorem Cb {X:Nat->Prop} {w0:World} {ρ:Loc} (d':Nat) {e:TypeId} {s:Nat} (hs:sortOf P e=some s) (h1:P.cellsOf e=1) (xs ys:Array Value):∀(n j:Nat) (cs ds:List AV),eqOKs (List.replicate n s) cs ds=true ->
    (∀i v c,xs[j+i]?=some v->cs[i]?=some c->RV X w0 ρ v c)->(∀i v c,ys[j+i]?=some v->ds[i]?=some c->RV X w0 ρ v c)->j+cs.length<=xs.size->j+ds.length<=ys.size ->
    ∀w,(Op.eqItems (d'+1) e (P.cellsOf e) xs ys (List.range' j n)).run P w=.ok (eqCs cs ds) w
 | 0,j,cs,ds,hok,_,_,_,_=>by
  cases cs<;>cases ds<;>simp[eqOKs]at hok
  intro w
  simp[Op.eqItems,eqCs]
 | n+1,j,cs,ds,hok,hx,hy,hlx,hly=>by
  cases cs with
  | nil=>simp[eqOKs,adO]at hok
  | cons c cs=>
   cases ds with
   | nil=>simp[eqOKs,adO]at hok
   | cons d ds=>
    simp only[adO,eqOKs,acN]at hok;simp only[acH]at hlx hly;have ex:xs[j]?=some (xs[j]' acB):=Array.getElem?_eq_getElem _;have ey:ys[j]?=some (ys[j]' acB):=Array.getElem?_eq_getElem _;obtain⟨hp,hrun⟩:=xc hs hok.1 (hx 0 _ c ex rfl) (hy 0 _ d ey rfl);have ih:=Cb d' hs h1 xs ys n (j+1) cs ds hok.2 (λi v c h g=>hx (i+1) v c (by rw[<-h];congr 1;omega) (by simpa using g)) (λi v c h g=>hy (i+1) v c (by rw[<-h];congr 1;omega) (by simpa using g)) acB acB;rw[h1]at ih;intro w;rw[List.range'_succ];simp only[Op.eqItems,Sem.run_bind,h1,adB,run_part_plain w hp ex,run_part_plain w hp ey,Result.andThen_ok,hrun d' w];cases h:eqC c d
    ·simp[eqCs,h]
    ·simpa[eqCs,h]using ih w
theorem zZ {X:Nat->Prop} {w0:World} {ρ:Loc} {t:TypeId} {ks:List Nat} (ht:eqOf P t=some ks) {vx vy:Value} {cs ds:List AV} (h1:RV X w0 ρ vx (.agg cs)) (h2:RV X w0 ρ vy (.agg ds)) (hok:eqOKs ks cs ds=true) :
    ∃xs ys,vx=.agg xs/\vy=.agg ys/\P.eqGuardType P.depth t=false/\∀w,(Op.equalIn 10000 t (.agg xs) (.agg ys)).run P w=.ok (eqCs cs ds) w:=by
 cases h1 with
 | agg _ xs _ hlx hx=>
  cases h2 with
  | agg _ ys _ hly hy=>
   unfold eqOf at ht;split at ht
   ·cases ht
   ·rename_i hg;refine⟨xs,ys,rfl,rfl,by simpa using hg,λw=>?_⟩;split at ht
    ·rename_i fs hu;split at ht
     ·cases ht
     ·rename_i hsi;have hf:P.fieldsOf t=fs:=by simp[Program.fieldsOf,hu]
      rw[run_equalIn_struct w 9999 t xs ys (by rw[hf];exact hu) (by simpa using hsi),hf];exact xf 9997 xs ys fs.toList 0 ks cs ds ht hok (λi v c g g'=>hx i v c (by simpa using g) g') (λi v c g g'=>hy i v c (by simpa using g) g') acB acB w
    ·rename_i n e hu;split at ht
     ·rename_i s hs;split at ht
      ·rename_i hc;simp only[acN,beq_iff_eq,adX]at hc;obtain⟨hc1,i,hi⟩:=hc;cases ht;rw[run_equalIn_array w 9999 xs ys hu hi,List.range_eq_range'];exact Cb 9998 hs hc1 xs ys n 0 cs ds hok (λi v c g g'=>hx i v c (by simpa using g) g') (λi v c g g'=>hy i v c (by simpa using g) g') acB acB w
      ·cases ht
     ·cases ht
    ·cases ht
theorem RV.iJ {X:Nat->Prop} {w:World} {ρ:Loc} {v:Value} {x:AV} (h:RV X w ρ v x) (h1:isCell x=true) :
    v.cells.size=[x].length/\(∀u∈v.cells.toList,u.oneCell'=true)/\∀(j:Nat) u a,v.cells.toList[j]?=some u->[x][j]?=some a->RV X w ρ u a:=by
 have hone:=RV.one h h1;have hcs:v.cells=#[v]:=by cases v<;>simp_all [Value.cells,Value.oneCell']
 rw[hcs];refine⟨rfl,λu hu=>by simp at hu;subst hu;exact hone,λj u a e1 e2=>?_⟩
 cases j with
 | zero=>simp at e1 e2;subst e1;subst e2;exact h
 | succ j=>simp at e1
theorem RV.cells {X:Nat->Prop} {w:World} {ρ:Loc} {v:Value} {x:AV} (h:RV X w ρ v x) (hc:aD x=true) :
    v.cells.size=(cellsOf x).length/\(∀u∈v.cells.toList,u.oneCell'=true)/\∀(j:Nat) u a,v.cells.toList[j]?=some u->(cellsOf x)[j]?=some a->RV X w ρ u a:=by
 cases x with
 | agg cs=>
  cases h with
  | agg _ vs _ hlen hrel=>
   refine⟨hlen,λu hu=>?_,λj u a e1 e2=>hrel j u a (by simpa[Value.cells]using e1) e2⟩;obtain⟨j,hj,rfl⟩:=aeW hu;have hj':j<cs.length:=by have:=hlen;simp[Value.cells]at hj;omega
   have ha:cs[j]?=some cs[j]:=List.getElem?_eq_getElem hj';have hcj:isCell cs[j]=true:=acI.1 hc _ (adK hj');refine RV.one (hrel j _ _ ?_ ha) hcj;simp only[Value.cells]at hj |-
   rw[<-Array.getElem?_toList];exact List.getElem?_eq_getElem hj
 | undef=>simp[aD,cellsOf,isCell]at hc
 | ab vs=>simp[aD,cellsOf,isCell]at hc
 | gd b x=>simp[aD,cellsOf,isCell]at hc
 | aA f vs=>simp[aD,cellsOf,isCell]at hc
 | bool b=>exact h.iJ (by simpa[aD,cellsOf]using hc)
 | int k n=>exact h.iJ (by simpa[aD,cellsOf]using hc)
 | fl k n=>exact h.iJ (by simpa[aD,cellsOf]using hc)
 | cx k n m=>exact h.iJ (by simpa[aD,cellsOf]using hc)
 | str l=>exact h.iJ (by simpa[aD,cellsOf]using hc)
 | lit l=>exact h.iJ (by simpa[aD,cellsOf]using hc)
 | an=>exact h.iJ (by simpa[aD,cellsOf]using hc)
 | ro sz es=>exact h.iJ (by simpa[aD,cellsOf]using hc)
 | ao x=>exact h.iJ (by simpa[aD,cellsOf]using hc)
 | sl i o n=>exact h.iJ (by simpa[aD,cellsOf]using hc)
 | ptr i o n=>exact h.iJ (by simpa[aD,cellsOf]using hc)
 | aa i o=>exact h.iJ (by simpa[aD,cellsOf]using hc)
def qJ (place:Nat->Option (Nat×Nat)):List (Nat×Operand)->List (Nat×Nat×AE)->Prop
 | [],[]=>True
 | (i,x)::r,(o,n,y)::l=>place i=some (o,n)/\y=trE x/\qJ place r l
 | _,_=>False
theorem AJ (pl:List (Nat×Nat)):∀(L:List (Nat×Operand)) (l:List (Nat×Nat×AE)),bldParts pl L=some l->qJ (pl.toArray[·]?) L l
 | [],l,h=>by
  simp only[bldParts,Option.some.injEq]at h
  subst h;trivial
 | (i,x)::r,l,h=>by
  simp only[bldParts]at h;split at h
  ·rename_i o n l' h1 h2;cases h;exact⟨by simpa using h1,rfl,AJ pl r l' h2⟩
  ·cases h
theorem AG (s:Nat):∀(L:List (Nat×Operand)),qJ (λi=>some (i*s,s)) L (su s L)
 | []=>trivial
 | (_,_)::r=>⟨rfl,rfl,AG s r⟩
theorem wu (h:af E ρ st a w) (place:Nat->Option (Nat×Nat)):∀(L:List (Nat×Operand)) (l:List (Nat×Nat×AE)) (cells:Array Value) (cs:List AV),qJ place L l->cells.size=cs.length ->
    (∀(j:Nat) v c,cells[j]?=some v->cs[j]?=some c->RV (XX E.X0 ρ st.h) w ρ v c)->bldC γ st l cs K->γ=true ->
    ∃out av,Instr.fill place cells (L.map λq=>(q.1,a.eval q.2))=some out/\RV (XX E.X0 ρ st.h) w ρ (.agg out) av/\K av
 | [],[],cells,cs,_,hs,hr,hk,_=>⟨cells,_,rfl,.agg _ _ cs hs hr,hk⟩
 | [],_::_,_,_,hm,_,_,_,_=>hm.elim
 | _::_,[],_,_,hm,_,_,_,_=>hm.elim
 | (i,x)::r,(o,n,y)::l,cells,cs,hm,hs,hr,hk,hγ=>by
  obtain⟨hp,rfl,hm⟩:=hm;obtain⟨av,h1,h2⟩:=aQ h (x:=x) hk hγ;obtain⟨hc,hk'⟩:=h2;obtain⟨c1,c2,c3⟩:=hc hγ;obtain⟨d1,d2,d3⟩:=h1.cells c1;have hvl:(a.eval x).cells.toList.length=n:=by simp;omega
  obtain⟨out,av',g1,g2,g3⟩:=wu h place r l ((a.eval x).cells.zipIdx.foldl (λcs (x:Value×Nat)=>cs.setIfInBounds (o+x.2) x.1) cells) (cs.take o++cellsOf av++cs.drop (o+n)) hm (by
      rw[<-aem,aei,vI];simp;omega) (λj v c e1 e2=>by
      rw[<-aem,aei,zI]at e1
      have hj:j<cs.length:=by
       have:=(List.getElem?_eq_some_iff.1 e2).1;simp at this;omega
      by_cases q1:j<o
      ·rw[if_neg acB]at e1;rw[ade,List.getElem?_append_left (by simp;omega),List.getElem?_take_of_lt q1]at e2;exact hr j v c e1 e2
      ·by_cases q2:j<o+n
       ·rw[if_pos acB]at e1;rw[ade,List.getElem?_append_right (by simp;omega),List.getElem?_append_left (by simp;omega)]at e2;refine d3 (j-o) v c (by simpa using e1) ?_;rw[<-e2];congr 1;simp;omega
       ·rw[if_neg acB]at e1;rw[List.getElem?_append_right (by simp;omega),List.getElem?_drop]at e2;refine hr j v c e1 ?_
        rw[<-e2];congr 1;simp;omega) hk' hγ
  refine⟨out,av',?_,g2,g3⟩;rw[adk];unfold Instr.fill;simp only[hp];rw[if_neg (by simp only[aee,decide_eq_true_eq,not_or];exact⟨by simp;omega,acB⟩)];exact g1
theorem Dv {y:Operand} (h:isNilS y=true):a.eval y=.slice none 0 0:=by
 unfold isNilS at h;split at h;rfl
 ·cases h
theorem Du {y:Operand} (h:isNilP y=true):a.eval y=.pointer none:=by
 unfold isNilP at h;split at h;rfl
 ·cases h
theorem Fa {t e:TypeId} (ht:P.underlying t=some (.pointer e)) (A:Option Addr) :
    (∀w',(binOp .eql t (.pointer A) (.pointer none)).run P w'=.ok (.bool A.isNone) w')/\(∀w',(binOp .neq t (.pointer A) (.pointer none)).run P w'=.ok (.bool (!A.isNone)) w'):=by
 have he0:∀(d':Nat) w',(Op.equalIn (d'+1) t (.pointer A) (.pointer none)).run P w'=.ok A.isNone w':=by
  intro d' w';cases A<;>simp[Op.equalIn,run_underlying ht]
 have he:∀w',(Op.equalIn 10000 t (.pointer A) (.pointer none)).run P w'=.ok A.isNone w':=he0 9999;refine⟨λw'=>?_,λw'=>?_⟩
 ·simp only[binOp];simp[Op.equal,Op.maxDepth,he w']
 ·simp only[binOp];simp[Op.equal,Op.maxDepth,he w']
theorem Fb {X:Nat->Prop} {w:World} {ρ:Loc} {v:Value} {x:AV} {neg:Bool} {K:AV->Prop} (hx:RV X w ρ v x) (hk:pnilC neg x K):∃A,v=.pointer A/\K (.bool (if neg then !A.isNone else A.isNone)):=by
 unfold pnilC at hk;split at hk
 ·cases hx;refine⟨_,rfl,?_⟩;cases neg<;>exact hk
 ·cases hx;refine⟨_,rfl,?_⟩;cases neg<;>exact hk
 ·cases hx;refine⟨_,rfl,?_⟩;cases neg<;>exact hk
 exact hk.elim
theorem Dt {y:Operand} (h:isNilI y=true):y=.const .nilIface:=by
 unfold isNilI at h;split at h;rfl
 ·cases h
theorem Dm {t:TypeId} {ms:Array (String×TypeId)} (ht:P.underlying t=some (.interface ms)) {v:Value} (hv:isIfV v=true) :
    (∀w',(binOp .eql t v .nilIface).run P w'=.ok (.bool (isNilV v)) w')/\(∀w',(binOp .neq t v .nilIface).run P w'=.ok (.bool (!isNilV v)) w')/\∀op x,eqGuard op t x (.const .nilIface) v .nilIface=pure ():=by
 have he0:∀(d':Nat) w',(Op.equalIn (d'+1) t v .nilIface).run P w'=.ok (isNilV v) w':=by
  intro d' w';cases v<;>simp[isIfV]at hv<;>simp[Op.equalIn,run_underlying ht,isNilV]
 have he:∀w',(Op.equalIn 10000 t v .nilIface).run P w'=.ok (isNilV v) w':=he0 9999;refine⟨λw'=>?_,λw'=>?_,λop x=>?_⟩
 ·cases v<;>simp[isIfV]at hv<;>(simp only[binOp];simp[Op.equal,Op.maxDepth,he w'])
 ·cases v<;>simp[isIfV]at hv<;>(simp only[binOp];simp[Op.equal,Op.maxDepth,he w'])
 ·cases v<;>simp[isIfV]at hv
  exact eqGuard_at_iface _ _ _ _ _ _ _
  ·cases op<;>simp[eqGuard]
theorem Gc (h:af E ρ st a w) {t e:TypeId} (ht:P.underlying t=some (.slice e)) {v:Value} {x:AV} (hx:RV (XX E.X0 ρ st.h) w ρ v x) {neg:Bool} (hk:snilC γ st neg x K) (hγ:γ=true) :
    ∃b,(∀w',(binOp .eql t v (.slice none 0 0)).run P w'=.ok (.bool b) w')/\(∀w',(binOp .neq t v (.slice none 0 0)).run P w'=.ok (.bool (!b)) w')/\K (.bool (if neg then !b else b))/\(∃A n c,v=.slice A n c):=by
 have run:∀(A:Option Addr) (n c:Nat),(∀w',(binOp .eql t (.slice A n c) (.slice none 0 0)).run P w'=.ok (.bool A.isNone) w')/\(∀w',(binOp .neq t (.slice A n c) (.slice none 0 0)).run P w'=.ok (.bool (!A.isNone)) w'):=by
  intro A n c
  have he0:∀(d':Nat) w',(Op.equalIn (d'+1) t (.slice A n c) (.slice none 0 0)).run P w'=.ok A.isNone w':=by
   intro d' w';cases A<;>simp[Op.equalIn,run_underlying ht]
  have he:∀w',(Op.equalIn 10000 t (.slice A n c) (.slice none 0 0)).run P w'=.ok A.isNone w':=he0 9999;refine⟨λw'=>?_,λw'=>?_⟩
  ·simp only[binOp];simp[Op.equal,Op.maxDepth,he w']
  ·simp only[binOp];simp[Op.equal,Op.maxDepth,he w']
 unfold snilC at hk;split at hk
 ·cases hx;refine⟨true,(run none 0 0).1,(run none 0 0).2,?_,_,_,_,rfl⟩;cases neg<;>exact hk
 ·rename_i id off n;obtain⟨k1,k2⟩:=hk;split at k2
  ·rename_i sz es hid
   cases hx with
   | sl _ _ _ _ c L A hL h1 h2 h3 hA=>
    obtain⟨_,hcnt,hcap,_,_,hnone⟩:=jg h hid hL;have hn:=k1 hγ;rcases hA with hA | hA;omega
    ·cases hb:L.b with
     | none=>have:=hnone hb;omega
     | some b=>
      rw[hb]at hA;subst hA;refine⟨false,(run _ _ _).1,(run _ _ _).2,?_,_,_,_,rfl⟩;cases neg<;>exact k2
  exact k2.elim
 ·rename_i sz es;obtain⟨k1,k2⟩:=hk
  cases hx with
  | ro _ A c _ _ vs hc au hlen hcell hrel=>
   obtain⟨g1,g2⟩:=k1 hγ;have hfl:=dY au;have:0<vs.length:=by rw[hlen,hfl];exact Nat.mul_pos g1 g2
   obtain⟨ad,e1,_⟩:=hcell 0 this;subst e1;refine⟨false,(run _ _ _).1,(run _ _ _).2,?_,_,_,_,rfl⟩;cases neg<;>exact k2
 exact hk.elim
theorem zY (h:af E ρ st a w) {o:Oper} {op:BinOp} {t:TypeId} {x y:Operand} (hv:aval γ st (trEq P t op (trE x) (trE y)) K) (hγ:γ=true)
    (ho:∀v,(∀w',(binOp op t (a.eval x) (a.eval y)).run P w'=.ok v w')->(∀w',(eqGuard op t x y (a.eval x) (a.eval y)).run P w'=.ok () w')->fa P w (execOp a.eval o) (.value v)):vO P E ρ st w (execOp a.eval o) K:=by
 unfold trEq at hv;split at hv
 ·rename_i ks ht;obtain⟨av,h1,h2⟩:=aQ h (x:=x) hv hγ;obtain⟨av',h1',h2'⟩:=aQ h (x:=y) h2 hγ;split at h2'
  ·obtain⟨xs,ys,e1,e2,hg,hrun⟩:=zZ (P:=P) ht h1 h1' (h2'.1 hγ);rename_i cs ds;refine⟨_,_,ho (.bool (eqCs cs ds)) (λw'=>?_) (λw'=>?_),.bool _ _,h2'.2⟩
   ·rw[e1,e2,run_eql_struct,hrun w'];rfl
   ·rw[e1,e2];exact run_eqGuard_agg w' _ _ _ _ _ _ hg
  exact h2'.elim
 ·rename_i ks ht;obtain⟨av,h1,h2⟩:=aQ h (x:=x) hv hγ;obtain⟨av',h1',h2'⟩:=aQ h (x:=y) h2 hγ;split at h2'
  ·obtain⟨xs,ys,e1,e2,hg,hrun⟩:=zZ (P:=P) ht h1 h1' (h2'.1 hγ);rename_i cs ds;refine⟨_,_,ho (.bool (!(eqCs cs ds))) (λw'=>?_) (λw'=>?_),.bool _ _,h2'.2⟩
   ·rw[e1,e2,run_neq_struct,hrun w'];rfl
   ·rw[e1,e2];exact run_eqGuard_agg w' _ _ _ _ _ _ hg
  exact h2'.elim
 exact hv.elim
def dOf:Option IntKind->TypeDesc
 | none=>.string
 | some k=>.int k
theorem DJ {t:TypeId} {kd:Option IntKind} (h:keyKd P t=some kd):P.underlying t=some (dOf kd):=by
 unfold keyKd at h;split at h
 ·rename_i e;obtain rfl:=Option.some.inj h;exact e
 ·rename_i e;obtain rfl:=Option.some.inj h;exact e
 ·cases h
theorem tV {kd:Option IntKind} {k:MK} (h:MK.ok kd k):MapKept.IsKey (dOf kd) k.val:=by
 cases kd<;>cases k<;>simp_all [MK.ok,dOf,MK.val,MapKept.IsKey]
theorem MK.val_inj {a b:MK} (h:a.val=b.val):a=b:=by
 cases a<;>cases b<;>simp_all [MK.val]
theorem YA {kd:Option IntKind} {a b:MK} (ha:MK.ok kd a) (hb:MK.ok kd b):Instr.sameNow (dOf kd) a.val b.val=some (decide (b=a)):=by
 obtain⟨r,h1,h2⟩:=MapKept.sameNow_of_keys (tV ha) (tV hb);rw[h1]
 congr 1
 rw[Bool.eq_iff_iff,h2,decide_eq_true_eq];exact⟨λe=>(MK.val_inj e).symm,λe=>by rw[e]⟩
theorem xm {kd:Option IntKind} {k:MK} (hk:MK.ok kd k):∀(es:List MapEntry) (l:List (MK×AV)) (i:Nat),es.length=l.length->(∀p∈l,MK.ok kd p.1)->(∀(j:Nat) e p,es[j]?=some e->l[j]?=some p->e.key=p.1.val) ->
    (Instr.findNow (dOf kd) k.val es i=some none/\mfind l k=none/\∀v,mput l k v=l++[(k,v)]) \/
    ∃(j:Nat) (e:MapEntry) (p:MK×AV),Instr.findNow (dOf kd) k.val es i=some (some (i+j,e.val))/\es[j]?=some e/\l[j]?=some p/\p.1=k/\mfind l k=some p.2/\∀v,mput l k v=l.set j (k,v)
 | [],[],i,_,_,_=>.inl ⟨rfl,rfl,λ_=>rfl⟩
 | [],_::_,_,h,_,_=>by simp at h
 | _::_,[],_,h,_,_=>by simp at h
 | e::es,p::l,i,hl,hok,hkey=>by
  have h0:=hkey 0 e p rfl rfl;have hs:=YA hk (hok p (acU ..));obtain⟨pk,pv⟩:=p;simp only at hs h0;by_cases hp:pk=k
  ·subst hp;refine .inr ⟨0,e,(pk,pv),?_,rfl,rfl,rfl,by simp[mfind],λv=>by simp[mput]⟩;simp[Instr.findNow,h0,hs]
  ·rcases xm hk es l (i+1) (by simpa using hl) (λp hp=>hok p (acV _ hp)) (λj e p e1 e2=>hkey (j+1) e p (by simpa using e1) (by simpa using e2))with⟨h1,h2,h3⟩ | ⟨j,e',p',h1,h2,h3,h4,h5,h6⟩;exact .inl ⟨by simp[Instr.findNow,h0,hs,hp,h1],by simp[mfind,hp,h2],λv=>by simp[mput,hp,h3]⟩
   ·refine .inr ⟨j+1,e',p',?_,by simpa using h2,by simpa using h3,h4,by simp[mfind,hp,h5],λv=>by simp[mput,hp,h6]⟩;simp only[Instr.findNow,h0,hs,hp,decide_false,h1]
    congr 2
    simp only[Prod.mk.injEq,and_true];omega
theorem DU (h:af E ρ st a w) {id:Nat} {kd:Option IntKind} {l:List (MK×AV)} (hid:hget st.h id=some (.mp kd l)) {v:Value} {i f:Nat} (hx:RV (XX E.X0 ρ st.h) w ρ v (.ptr id i f)) :
    ∃L b,ρ id=some L/\L.b=some b/\L.cap<L.fh/\L.sz=0/\v=.map (some b)/\MapAt (XX E.X0 ρ st.h) w w b kd l:=by
 obtain⟨L,hL,b,h1,h2,h3,h4⟩:=h.heap.win id _ hid
 cases hx with
 | ptr _ _ _ _ L' b' hL' hb' hi' hf'=>
  rw[hL]at hL';obtain rfl:=Option.some.inj hL'
  omega
 | dk _ _ L' b' hL' hb' hm' hz'=>
  rw[hL]at hL';obtain rfl:=Option.some.inj hL';rw[h1]at hb';obtain rfl:=Option.some.inj hb';exact⟨L,b,hL,h1,h2,h3,rfl,h4⟩
theorem D3 {X:Nat->Prop} {v:Value} {x:AV} {k:MK} (h:RV X w ρ v x) (hk:mkOf x=some k):v=k.val:=by
 cases h<;>simp_all [mkOf]
 all_goals (subst hk;rfl)
theorem ace {t:TypeId} {z:AV} (h:zeroAV P t=some z):∃i zv,P.info? t=some i/\i.zero=some zv/\z=constAV zv:=by
 unfold zeroAV at h;split at h
 ·rename_i i hi;split at h
  ·rename_i zv hz;exact⟨i,zv,hi,hz,(Option.some.inj h).symm⟩
  ·cases h
 ·cases h
theorem UG (h:af E ρ st a w) {t kt et:TypeId} {kd:Option IntKind} {z:AV} (ht:P.underlying t=some (.map kt et)) (hkd:keyKd P kt=some kd) (hz:zeroAV P et=some z) {ok:Bool}
    {v vi:Value} {x i:AV} (hx:RV (XX E.X0 ρ st.h) w ρ v x) (hi:RV (XX E.X0 ρ st.h) w ρ vi i) (hl:mlkC st kd ok z x i K) :
    ∃v' av,fa P w (Instr.lookup t v vi ok) v'/\RV (XX E.X0 ρ st.h) w ρ v' av/\K av:=by
 unfold mlkC at hl;split at hl
 ·rename_i id _ _ k hk;split at hl
  ·rename_i kd' l hid;obtain⟨⟨rfl,hok⟩,hK⟩:=hl;obtain⟨L,b,hL,hb,hm,hz0,rfl,es,clock,m1,m2,m3,m4⟩:=DU h hid hx;obtain rfl:=D3 hi hk;obtain⟨iz,zv,z1,z2,rfl⟩:=ace hz;have hlt:b<w.heap.size:=(Array.getElem?_eq_some_iff.1 m1).1;have hd:=DJ hkd;have hke:=tV hok;have hf:=xm hok es.toList l 0 (by simpa using m2) m3 (λj e p e1 e2=>(m4 j e p (by simpa using e1) e2).1);rcases hf with⟨f1,f2,_⟩ | ⟨j,e,p,f1,f2,f3,f4,f5,_⟩
   ·rw[f2]at hK;refine⟨if ok then .tuple #[zv,.bool false]else zv,_,λw' hs=>?_,?_,hK⟩
    ·have m1':=(hs.block b hlt).trans m1;cases ok<;>simp[Instr.lookup,run_underlying ht,MapKept.run_getObj_map m1',MapKept.run_checkKey hd hke,MapKept.run_findKey hd f1,zeroValue,typeInfo,z1,z2]
    ·cases ok with
     | false=>exact RV.constAV zv
     | true=>
      refine .ab _ _ _ rfl (λj v a e1 e2=>?_)
      match j,e1,e2 with
      | 0,e1,e2=>simp at e1 e2;subst e1;subst e2;exact RV.constAV zv
      | 1,e1,e2=>simp at e1 e2;subst e1;subst e2;exact .bool _ _
      | j+2,e1,e2=>simp at e1
   ·rw[f5]at hK;have hv:=((m4 j e p (by simpa using f2) f3).2).lift ρ;refine⟨if ok then .tuple #[e.val,.bool true]else e.val,_,λw' hs=>?_,?_,hK⟩
    ·have m1':=(hs.block b hlt).trans m1;cases ok<;>simp[Instr.lookup,run_underlying ht,MapKept.run_getObj_map m1',MapKept.run_checkKey hd hke,MapKept.run_findKey hd f1]
    ·cases ok with
     | false=>exact hv
     | true=>
      refine .ab _ _ _ rfl (λj v a e1 e2=>?_)
      match j,e1,e2 with
      | 0,e1,e2=>simp at e1 e2;subst e1;subst e2;exact hv
      | 1,e1,e2=>simp at e1 e2;subst e1;subst e2;exact .bool _ _
      | j+2,e1,e2=>simp at e1
  exact hl.elim
 exact hl.elim
theorem si (h:af E ρ st a w) {o:Oper} (hv:aval γ st (trOp P o) K) (hγ:γ=true):vO P E ρ st w (execOp a.eval o) K:=by
 unfold trOp at hv;split at hv
 ·rename_i x ho;obtain⟨av,h1,h2⟩:=aQ h (x:=x) hv hγ;exact⟨_,av,λw' _=>by simp only[execOp,ho,Sem.run_pure],h1,h2⟩
 ·rename_i x ho;obtain⟨av,h1,h2⟩:=aQ h (x:=x) hv hγ;exact⟨_,av,λw' _=>by simp only[execOp,ho,Sem.run_pure],h1,h2⟩
 ·rename_i c x y ho;obtain⟨av,h1,h2⟩:=aQ h (x:=c) hv hγ;split at h2
  ·rename_i β;have hc:=RV.jh h1;obtain⟨av,g1,g2⟩:=WS h hc h2 hγ;exact⟨_,av,λw' _=>by simp only[execOp,ho,hc,asBool,Sem.run_bind,Sem.run_pure,Result.andThen_ok],g1,g2⟩
  exact h2.elim
 ·rename_i op t x y u ho
  have run:∀v,fa P w (binOp op t (a.eval x) (a.eval y)) v->(∀p q,eqGuard op t p q (a.eval x) (a.eval y)=pure ())->fa P w (execOp a.eval o) (.value v):=by
   intro v h1 h2 w' hs;simp[execOp,ho,h2,h1 w' hs]
  split at hv
  ·rename_i hu;obtain⟨av,h1,h2⟩:=aQ h (x:=x) hv hγ;obtain⟨av',h1',h2'⟩:=aQ h (x:=y) h2 hγ;split at h2'
   ·rename_i p q;have e1:=RV.jh h1;have e2:=RV.jh h1';exact⟨_,_,run (.bool (p==q)) (by rw[e1,e2];exact λ_ _=>run_eql_bool hu p q) (λ_ _=>by rw[e1];exact eqGuard_at_bool _ _ _ _ _ _),.bool _ _,h2'⟩
   exact h2'.elim
  ·rename_i hu;obtain⟨av,h1,h2⟩:=aQ h (x:=x) hv hγ;obtain⟨av',h1',h2'⟩:=aQ h (x:=y) h2 hγ;split at h2'
   ·rename_i p q;have e1:=RV.jh h1;have e2:=RV.jh h1';exact⟨_,_,run (.bool (!(p==q))) (by rw[e1,e2];exact λ_ _=>run_neq_bool hu p q) (λ_ _=>by rw[e1];exact eqGuard_at_bool _ _ _ _ _ _),.bool _ _,h2'⟩
   exact h2'.elim
  exact hv.elim
  ·rename_i e hu;split at hv
   ·rename_i hnl;obtain⟨av,h1,h2⟩:=aQ h (x:=x) hv hγ;obtain⟨b,r1,_,r3,A,n,c,rfl'⟩:=Gc (P:=P) h hu h1 h2 hγ;have ey:=Dv (a:=a) hnl;exact⟨_,_,run (.bool b) (by rw[ey];exact λw' _=>r1 w') (λp q=>by rw[rfl'];cases c<;>rfl),.bool _ _,r3⟩
   exact hv.elim
  ·rename_i e hu;split at hv
   ·rename_i hnl;obtain⟨av,h1,h2⟩:=aQ h (x:=x) hv hγ;obtain⟨b,_,r2,r3,A,n,c,rfl'⟩:=Gc (P:=P) h hu h1 h2 hγ;have ey:=Dv (a:=a) hnl;exact⟨_,_,run (.bool (!b)) (by rw[ey];exact λw' _=>r2 w') (λp q=>by rw[rfl'];cases c<;>rfl),.bool _ _,r3⟩
   exact hv.elim
  ·rename_i ms hu;split at hv
   ·rename_i hnl;obtain⟨av,h1,h2⟩:=aQ h (x:=x) hv hγ;unfold inilC at h2;split at h2
    ·rename_i v;obtain⟨k1,k2⟩:=h2;obtain rfl:=Dt hnl;obtain⟨r1,r2,r3⟩:=Dm (P:=P) hu (k1 hγ)
     have hx:a.eval x=v:=by
      generalize a.eval x=z at h1;cases h1;rfl
     refine⟨.bool (isNilV v),_,λw' _=>?_,.bool _ _,k2⟩;simp only[execOp,ho,hx];simp[Act.eval,r3,r1 w']
    exact h2.elim
   exact hv.elim
  ·rename_i ms hu;split at hv
   ·rename_i hnl;obtain⟨av,h1,h2⟩:=aQ h (x:=x) hv hγ;unfold inilC at h2;split at h2
    ·rename_i v;obtain⟨k1,k2⟩:=h2;obtain rfl:=Dt hnl;obtain⟨r1,r2,r3⟩:=Dm (P:=P) hu (k1 hγ)
     have hx:a.eval x=v:=by
      generalize a.eval x=z at h1;cases h1;rfl
     refine⟨.bool (!isNilV v),_,λw' _=>?_,.bool _ _,k2⟩;simp only[execOp,ho,hx];simp[Act.eval,r3,r2 w']
    exact h2.elim
   exact hv.elim
  ·rename_i e hu;split at hv
   ·rename_i hnl;obtain⟨av,h1,h2⟩:=aQ h (x:=x) hv hγ;obtain⟨A,ex,r3⟩:=Fb h1 h2;have ey:=Du (a:=a) hnl;exact⟨_,_,run (.bool A.isNone) (by rw[ex,ey];exact λw' _=>(Fa hu A).1 w') (λp q=>by rw[ex];exact eqGuard_at_pointer _ _ _ _ _ _),.bool _ _,r3⟩
   exact hv.elim
  ·rename_i e hu;split at hv
   ·rename_i hnl;obtain⟨av,h1,h2⟩:=aQ h (x:=x) hv hγ;obtain⟨A,ex,r3⟩:=Fb h1 h2;have ey:=Du (a:=a) hnl;exact⟨_,_,run (.bool (!A.isNone)) (by rw[ex,ey];exact λw' _=>(Fa hu A).2 w') (λp q=>by rw[ex];exact eqGuard_at_pointer _ _ _ _ _ _),.bool _ _,r3⟩
   exact hv.elim
  exact zY h hv hγ (λv h1 h2 w' _=>by simp[execOp,ho,h2,h1 w']);exact zY h hv hγ (λv h1 h2 w' _=>by simp[execOp,ho,h2,h1 w'])
  ·obtain⟨av,h1,h2⟩:=aQ h (x:=x) hv hγ;obtain⟨av',h1',h2'⟩:=aQ h (x:=y) h2 hγ;obtain⟨⟨v,r,g1,g2,g3⟩,g4⟩:=Hu (P:=P) (t:=t) h1 h1' h2' hγ;exact⟨v,r,run v g1 g4,g2,g3⟩
 ·rename_i op t x ho;obtain⟨av,h1,h2⟩:=aQ h (x:=x) hv hγ;unfold avalUn at h2;split at h2
  ·refine⟨_,_,λw' _=>?_,.bool _ _,h2⟩;simp[execOp,ho,RV.jh h1,Op.unary]
  ·refine⟨_,_,λw' _=>?_,.int _ _ _,h2⟩;simp[execOp,ho,RV.eT h1,Op.unary,Op.intArith]
  ·rename_i k n;refine⟨.int k (bits .xor k (if k.signed then -1 else k.max) n),_,λw' _=>?_,.int _ _ _,h2⟩
   simp only[execOp,ho,RV.eT h1,Op.unary,intBits_xor,Sem.run_bind,Sem.run_pure,Result.andThen_ok]
  exact h2.elim
 ·rename_i s d x ho;obtain⟨v,av,h1,h2,h3⟩:=LG (P:=P) h hv hγ;exact⟨v,av,λw' hs=>by simp[execOp,ho,h1 w' hs],h2,h3⟩
 ·rename_i x ho;obtain⟨av,h1,h2⟩:=aQ h (x:=x) hv hγ;split at h2
  ·generalize hx:a.eval x=v at *
   have h1':=h1;cases h1;exact⟨_,_,λw' _=>by simp[execOp,ho,hx],h1',h2⟩
  ·generalize hx:a.eval x=v at *
   have h1':=h1;cases h1;exact⟨_,_,λw' _=>by simp[execOp,ho,hx],h1',h2⟩
  exact h2.elim
 ·rename_i x i ho;obtain⟨av,h1,h2⟩:=aQ h (x:=x) hv hγ;split at h2
  ·rename_i vs;obtain⟨hi,h3⟩:=h2;generalize hx:a.eval x=v at *
   cases h1 with
   | ab _ arr _ hlen hrel=>
    have ha:arr[i]?=some (arr[i]' acB):=Array.getElem?_eq_getElem _;refine⟨arr[i]' acB,_,λw' _=>?_,hrel i _ _ ha ?_,h3⟩
    ·simp[execOp,ho,hx,Instr.extract,ha]
    ·rw[acC,List.getElem?_eq_getElem hi];rfl
  exact h2.elim
 ·rename_i t x i ho;split at hv
  ·rename_i e hu;split at hv
   ·rename_i s hs;obtain⟨av,h1,h2⟩:=aQ h (x:=x) hv hγ;obtain⟨av',h1',h2'⟩:=aQ h (x:=i) h2 hγ;obtain⟨v,r,g1,g2,g3⟩:=IV (P:=P) h hu hs h1 h1' h2' hγ;exact⟨v,r,λw' hs=>by simp[execOp,ho,g1 w' hs],g2,g3⟩
   exact hv.elim
  ·rename_i len e hu;split at hv
   ·rename_i s hs;obtain⟨av,h1,h2⟩:=aQ h (x:=x) hv hγ;obtain⟨av',h1',h2'⟩:=aQ h (x:=i) h2 hγ;split at h2'
    ·rename_i id f k n;obtain⟨q0,q1⟩:=h2'.1 hγ;generalize hx:a.eval x=v at *
     cases h1 with
     | aa _ _ _ L b hL hb=>
      refine⟨.pointer (some ⟨b,L.o+(f+n.toNat*s),none⟩),_,λw' _=>?_,.aa _ _ _ L b hL hb,h2'.2⟩;simp[execOp,ho,hx,RV.eT h1',Instr.indexAt,Instr.sureAddr,asIntOf,run_underlying hu,q0,q1,run_sizeOf hs,Addr.add_lit,adC]
    ·rename_i cs k n;obtain⟨⟨q0,rfl,hcell1⟩,hk⟩:=h2';obtain⟨q0,q1,q2⟩:=q0 hγ;generalize hx:a.eval x=v at *
     cases h1 with
     | ao _ ad _ vs hsp hlen hcell hrel=>
      simp only[cellsOf]at hlen hrel;refine⟨.pointer (some (ad.add n.toNat)),_,λw' _=>?_,?_,hk⟩
      ·simp[execOp,ho,hx,RV.eT h1',Instr.indexAt,Instr.sureAddr,asIntOf,run_underlying hu,q0,q1,run_sizeOf hs]
      ·have hc1:cs[n.toNat]?=some (cs.getD n.toNat .undef):=by
        rw[acC,List.getElem?_eq_getElem acB];rfl
       have hone:=wE hcell1;refine .ao _ _ _ ((vs.drop n.toNat).take 1) (rC _ _ hsp) (by rw[hone];simp;omega) (λj hj=>?_) (λj v a q1 q2=>?_)
       ·have hj':j<1:=by simp at hj;omega
        have:=hcell (n.toNat+j) acB;rw[block_add,eE _ _ _ _ hj',add_add _ _ _ hsp];exact this
       ·have hj':j<1:=by
         have:=(List.getElem?_eq_some_iff.1 q1).1;simp at this;omega
        obtain rfl:j=0:=acB;rw[eE _ _ _ _ hj']at q1;rw[hone]at q2;exact hrel _ v a q1 (by rw[adA,hc1];simpa using q2)
    exact h2'.elim
   exact hv.elim
  exact hv.elim
 ·rename_i t x i ho;split at hv
  ·rename_i hu;obtain⟨av,h1,h2⟩:=aQ h (x:=x) hv hγ;obtain⟨av',h1',h2'⟩:=aQ h (x:=i) h2 hγ;split at h2'
   ·rename_i l k n;obtain⟨q0,q1⟩:=h2'.1 hγ;refine⟨.int .u8 (l.getD n.toNat 0).toNat,_,λw' _=>?_,.int _ _ _,h2'.2⟩;simp[execOp,ho,RV.lp h1,RV.eT h1',Instr.index,asIntOf,run_underlying hu,q0,Jt l n.toNat acB]
   exact h2'.elim
  ·rename_i len e hu;split at hv
   ·rename_i ha hn;obtain⟨av,h1,h2⟩:=aQ h (x:=x) hv hγ;obtain⟨av',h1',h2'⟩:=aQ h (x:=i) h2 hγ;split at h2'
    ·rename_i cs k n;obtain⟨q0,q1,q2⟩:=h2'.1 hγ;generalize hx:a.eval x=v at *
     cases h1 with
     | agg _ arr _ hlen hrel=>
      have hlt:n.toNat<arr.size:=acB;have hA:arr[n.toNat]?=some arr[n.toNat]:=Array.getElem?_eq_getElem hlt;refine⟨arr[n.toNat],_,λw' _=>?_,hrel _ _ _ hA ?_,h2'.2⟩
      ·simp[execOp,ho,hx,RV.eT h1',Instr.index,asIntOf,run_underlying hu,q0,q1,run_sizeOf hn,part,rk ha,hA]
      ·rw[acC,List.getElem?_eq_getElem acB];rfl
    exact h2'.elim
   exact hv.elim
  exact hv.elim
 ·rename_i t x ho;split at hv
  ·rename_i ag n ha hn;obtain⟨av,h1,h2⟩:=aQ h (x:=x) hv hγ;obtain⟨v,r,g1,g2,g3⟩:=Ak (P:=P) h ha hn h1 h2 hγ;exact⟨v,r,λw' hs=>by simp[execOp,ho,g1 w' hs],g2,g3⟩
  exact hv.elim
 ·split at hv<;>exact hv.elim
 ·rename_i t x lo hi mx ho;split at hv
  ·rename_i hu;obtain⟨av,h1,h2⟩:=aQ h (x:=x) hv hγ;split at h2
   ·rename_i s;obtain⟨l,m,q1,q2,q3,q4⟩:=pW (P:=P) h h2 hγ;refine⟨.string ⟨((s.drop l).take (m-l)).toArray⟩,_,λw' _=>?_,.str _ _,q4⟩;have q3':=q3 w' false s.length (acG _);simp only[execOp,ho,RV.lp h1,Instr.sliceAt,Instr.slice,Sem.run_bind,run_underlying hu,Result.andThen_ok,adH,ac8,acT,if_false,mC,q3',Sem.run_pure,sr]
   exact h2.elim
  ·rename_i e hu;split at hv
   ·rename_i s hs;obtain⟨av,h1,h2⟩:=aQ h (x:=x) hv hγ;obtain⟨v,r,g1,g2,g3⟩:=I9 (P:=P) h hu hs h1 h2 hγ;exact⟨v,r,λw' hs=>by simp[execOp,ho,g1 w' hs],g2,g3⟩
   exact hv.elim
  exact hv.elim
 ·rename_i t x f ho;split at hv
  ·rename_i fs hu;split at hv
   ·rename_i fl hf;split at hv
    ·rename_i ag n ha hn;split at hv;exact hv.elim
     ·split at hv;exact hv.elim
      ·rename_i hn0 _;obtain⟨av,h1,h2⟩:=aQ h (x:=x) hv hγ;obtain⟨v,r,g1,g2,g3⟩:=IU (P:=P) h hu hf hn hn0 h1 h2 hγ;exact⟨v,r,λw' hs=>by simp[execOp,ho,g1 w' hs],g2,g3⟩
    exact hv.elim
   exact hv.elim
  exact hv.elim
 ·rename_i t x f ho;split at hv
  ·rename_i fs hu;split at hv
   ·rename_i fl hf;split at hv
    ·rename_i ag n ha hn;split at hv;exact hv.elim
     ·obtain⟨av,h1,h2⟩:=aQ h (x:=x) hv hγ;split at h2
      ·rename_i cs;obtain⟨q1,q2,q3⟩:=h2;have q1:=q1 hγ;generalize hx:a.eval x=v at *
       cases h1 with
       | agg _ arr _ hlen hrel=>
        cases ag with
        | true=>
         refine⟨.agg (arr.extract fl.offset (fl.offset+n)),_,λw' _=>?_,.agg _ _ ((cs.drop fl.offset).take n) (by simp;omega) (λj v a e1 e2=>?_),q3⟩
         ·simp[execOp,ho,hx,Instr.field,run_underlying hu,hf,asAgg,part,rk ha,run_sizeOf hn]
         ·rw[Array.getElem?_extract]at e1;split at e1
          ·rename_i hj;rw[List.getElem?_take,if_pos acB,List.getElem?_drop]at e2;exact hrel _ v a e1 e2
          ·cases e1
        | false=>
         have hlt:fl.offset<arr.size:=acB;have hA:arr[fl.offset]?=some arr[fl.offset]:=Array.getElem?_eq_getElem hlt;refine⟨arr[fl.offset],_,λw' _=>?_,hrel _ _ _ hA ?_,q3⟩
         ·simp[execOp,ho,hx,Instr.field,run_underlying hu,hf,asAgg,part,rk ha,hA]
         ·rw[acC,List.getElem?_eq_getElem acB];rfl
      exact h2.elim
    exact hv.elim
   exact hv.elim
  exact hv.elim
 ·split at hv<;>exact hv.elim
 ·split at hv<;>exact hv.elim
 ·split at hv
  ·split at hv
   ·split at hv<;>exact hv.elim
   exact hv.elim
  exact hv.elim
 ·rename_i c ho;exact Kx h ho hv hγ
 ·rename_i t parts ho;split at hv
  ·rename_i fs hu;split at hv
   ·rename_i z pl hz aL;split at hv
    ·rename_i l hl;unfold zeroCells at hz;split at hz
     ·rename_i i hi;split at hz
      ·rename_i z0 hz0;obtain rfl:=Option.some.inj hz
       obtain⟨out,av,g1,g2,g3⟩:=wu h (pl.toArray[·]?) parts.toList l z0.cells (z0.cells.toList.map constC) (AJ pl _ l hl) (by simp) (λj v c e1 e2=>by
        rw[List.getElem?_map,Array.getElem?_toList,e1]at e2;simp at e2;subst e2
        exact RV.constC v) hv hγ
       have hb:P.built t (parts.map fun(i,x)=>(i,a.eval x)).toList=some out:=by
        rw[Array.toList_map];unfold Program.built;simp only[hi,hu,hz0,aL];exact g1
       refine⟨.agg out,av,λw' _=>?_,g2,g3⟩;simp only[execOp,ho];have hr:=run_build w' t _ _ hb;simp only[Sem.run_bind];rw[hr];rfl
      ·cases hz
     ·cases hz
    exact hv.elim
   exact hv.elim
  ·rename_i n e hu;split at hv
   ·rename_i z s hz hs;unfold zeroCells at hz;split at hz
    ·rename_i i hi;split at hz
     ·rename_i z0 hz0;obtain rfl:=Option.some.inj hz;obtain⟨ie,hie,hisz⟩:=Gt hs
      obtain⟨out,av,g1,g2,g3⟩:=wu h (λi=>some (i*s,s)) parts.toList (su s parts.toList) z0.cells (z0.cells.toList.map constC) (AG s _) (by simp) (λj v c e1 e2=>by
       rw[List.getElem?_map,Array.getElem?_toList,e1]at e2;simp at e2;subst e2
       exact RV.constC v) hv hγ
      have hb:P.built t (parts.map fun(i,x)=>(i,a.eval x)).toList=some out:=by
       rw[Array.toList_map];unfold Program.built;simp only[hi,hu,hz0,hie,hisz];exact g1
      refine⟨.agg out,av,λw' _=>?_,g2,g3⟩;simp only[execOp,ho];have hr:=run_build w' t _ _ hb;simp only[Sem.run_bind];rw[hr];rfl
     ·cases hz
    ·cases hz
   exact hv.elim
  exact hv.elim
 ·rename_i t x ho;split at hv;exact hv.elim
  ·rename_i d hne hu;obtain⟨av,h1,h2⟩:=aQ h (x:=x) hv hγ;split at h2
   ·generalize hx:a.eval x=v at *
    cases h1 with
    | agg _ arr _ hlen hrel=>
     obtain rfl:arr=#[]:=Array.eq_empty_of_size_eq_zero (by simpa using hlen);refine⟨_,_,λw' _=>?_,.lit _ _,h2⟩;simp only[execOp,ho,hx,Instr.makeInterface];cases d<;>first | (exact(hne _ rfl).elim) | simp[run_underlying hu]
   ·generalize hx:a.eval x=v at *
    cases h1 with
    | int _ k n=>
     refine⟨_,_,λw' _=>?_,.lit _ _,h2⟩;simp only[execOp,ho,hx,Instr.makeInterface];cases d<;>first | (exact(hne _ rfl).elim) | simp[run_underlying hu]
   exact h2.elim
  exact hv.elim
 ·rename_i f first cap ho
  split at hv
  ·rename_i hfe;obtain⟨_,h2⟩:=hv;obtain rfl:first=#[]:=by simpa using hfe
   refine⟨.func (.func f) #[] (cap.map a.eval),_,λw' _=>?_,.aA _ _ _ _ (by simp) (λj v x e1 e2=>?_),h2⟩
   ·simp[execOp,ho,Instr.makeFunc]
   ·rw[Array.getElem?_map]at e1;obtain⟨y,g1,rfl⟩:=acE.1 e1;rw[adD,List.getElem?_map,Array.getElem?_toList,g1]at e2;simp at e2;subst e2;exact a6 h y
  exact hv.elim
 ·exfalso;(repeat' (first | exact hv.elim | split at hv))
 exact hv.elim
 ·exfalso;(repeat' (first | exact hv.elim | split at hv))
 ·rename_i t x i ok ho;split at hv
  ·rename_i kt et hu;split at hv
   ·rename_i kd z hkd hz;obtain⟨av,h1,h2⟩:=aQ h (x:=x) hv hγ;obtain⟨av',h1',h2'⟩:=aQ h (x:=i) h2 hγ;obtain⟨v,r,g1,g2,g3⟩:=UG (P:=P) h hu hkd hz h1 h1' h2';exact⟨v,r,λw' hs=>by simp[execOp,ho,g1 w' hs],g2,g3⟩
   exact hv.elim
  exact hv.elim
 ·exfalso;(repeat' (first | exact hv.elim | split at hv))
 ·exfalso;(repeat' (first | exact hv.elim | split at hv))
 exact hv.elim
end
end Go.Proofs.YtgghhaahnpbnmaaGreatDoor.Eng
namespace Go.Proofs.YtgghhaahnpbnmaaGreatDoor.Eng
theorem yV (P:Program) (g o:Nat) (t:TypeId) (fz:Nat×Nat):∀(vs:List Value) (i:Nat) (cur:Array Value) (w:World),w.heap[g]?=some (.cells cur t fz)->(∀j,j<cur.size->¬(fz.1<=j/\j<fz.2))->o+i+vs.length<=cur.size->(∀v∈vs,v.oneCell'=true) ->
    (storeCells ⟨g,o,none⟩ vs i).run P w=.ok () (w.setRow g (cur.toList.take (o+i)++vs++cur.toList.drop (o+i+vs.length)).toArray)
 | [],i,cur,w,hg,_,_,_=>by
  simp only[storeCells,adx,ac9,adA,adE,Array.toArray_toList];rw[setRow_self w g cur t fz hg]
  rfl
 | v::rest,i,cur,w,hg,hz,hl,h1=>by
  have hi:o+i<cur.size:=by simp at hl;omega
  have hadd:(⟨g,o,none⟩:Addr).add i=⟨g,o+i,none⟩:=by unfold Addr.add;split<;>simp_all
  have hcell:w.cell? ⟨g,o+i,none⟩=some cur[o+i]:=by simp[World.cell?,hg,hi]
  have hfro:w.frozen? ⟨g,o+i,none⟩=false:=by
   have:=hz (o+i) hi;simp only[World.frozen?,hg];simp only[Bool.and_eq_false_iff,decide_eq_false_iff_not];omega
  have hst:(store ((⟨g,o,none⟩:Addr).add i) v).run P w=.ok () (w.setRow g (cur.setIfInBounds (o+i) v)):=by
   rw[hadd,run_store P w _ v _ (h1 v (by simp)),hcell];simp[hfro,setCell_eq_setRow w g (o+i) cur t fz v hg]
  have ih:=yV P g o t fz rest (i+1) (cur.setIfInBounds (o+i) v) (w.setRow g (cur.setIfInBounds (o+i) v)) (setRow_heap w g cur _ t _ hg) (by simpa using hz) (by simp at hl |-;omega) (λx hx=>h1 x (by simp[hx]));simp only[storeCells,Sem.run_bind,hst,Result.andThen_ok,ih,setRow_setRow]
  congr 3
  have e:=list_seg_step cur.toList (o+i) v rest (by simp at hl |-;omega);simpa[Array.toList_setIfInBounds,adC]using e
def bV {α:Type} (l:List α) (k:Nat) (s:List α):List α:=l.take k++s++l.drop (k+s.length)
theorem nv {α:Type} {l:List α} {k:Nat} {s:List α} (h:k+s.length<=l.length):(bV l k s).length=l.length:=by
 unfold bV;simp;omega
theorem rl {α:Type} {l:List α} {k:Nat} {s:List α} (h:k+s.length<=l.length) (j:Nat):(bV l k s)[j]?=if j<k then l[j]? else if j<k+s.length then s[j-k]? else l[j]?:=by
 unfold bV;have hk:min k l.length=k:=acB;simp only[List.getElem?_append,acD,acJ,hk,List.getElem?_take,List.getElem?_drop];by_cases h1:j<k
 ·rw[if_pos acB,if_pos h1,if_pos h1,if_pos h1]
 ·by_cases h2:j<k+s.length
  ·rw[if_pos h2,if_neg h1,if_neg h1,if_pos h2]
  ·rw[if_neg h2,if_neg h1,if_neg h2]
   congr 1
   omega
theorem YF {R:Value->AV->Prop} {cur vs:List Value} {cs as:List AV} {o p:Nat} (h0:∀(j:Nat) v a,cur[o+j]?=some v->cs[j]?=some a->R v a)
    (h1:∀(j:Nat) v a,vs[j]?=some v->as[j]?=some a->R v a) (hl:vs.length=as.length) (hp:p+as.length<=cs.length) (hc:o+cs.length<=cur.length) :
    ∀(j:Nat) v a,(bV cur (o+p) vs)[o+j]?=some v->(bV cs p as)[j]?=some a->R v a:=by
 intro j v a e1 e2;rw[rl acB]at e1 e2;by_cases h2:j<p
 ·rw[if_pos acB]at e1;rw[if_pos h2]at e2;exact h0 j v a e1 e2
 ·rw[if_neg acB]at e1;rw[if_neg h2]at e2;by_cases h3:j<p+as.length
  ·rw[if_pos acB,show o+j-(o+p)=j-p by omega]at e1;rw[if_pos h3]at e2;exact h1 _ v a e1 e2
  ·rw[if_neg acB]at e1;rw[if_neg h3]at e2;exact h0 j v a e1 e2
def noRefC:AV->Bool
 | .sl _ _ _ | .ptr _ _ _ | .aa _ _ | .agg _ | .ab _ | .gd _ _ | .aA _ _=>false
 | _=>true
def bF:AV->Bool
 | .agg cs=>cs.all noRefC
 | x=>noRefC x
theorem RV.nD {X:Nat->Prop} {w:World} {ρ:Loc} {v:Value} {x:AV} (h:RV X w ρ v x) (hn:noRefC x=true) (ρ':Loc):RV X w ρ' v x:=by
 cases h<;>first | (simp[noRefC]at hn;done) | skip
 exact .undef _ _;exact .bool _ _;exact .int _ _ _;exact .fl _ _ _;exact .cx _ _ _ _;exact .str _ _;exact .lit _ _;exact .an _
 ·rename_i sz es A c vs hc au hlen hcell hrel;exact .ro _ _ _ _ _ vs hc au hlen hcell hrel
 ·rename_i x ad vs hsp hlen hcell hrel;exact .ao _ _ _ vs hsp hlen hcell hrel
theorem Ej {x:AV} (hn:bF x=true):∀a∈cellsOf x,noRefC a=true:=by
 intro a ha
 cases x with
 | agg cs=>exact acI.1 hn a ha
 | _=>simp only[cellsOf,ac0]at ha;subst ha;exact hn
def bL (st:St) (d:Nat) (W:aC):St:=⟨killS d st.s,bo (fE d st.h) d W⟩
section
variable {P:Program} {E:Env} {ρ:Loc} {st:St} {a:Act} {w:World}
theorem vt {id:Nat} {w':World} (k:az w w'):vT ρ st.h id w w':=⟨k.os,k.tape,k.output,k.size,λb hb _=>k.block b hb⟩
theorem ur (h:af E ρ st a w) (d sz:Nat) (es:List AV) (cur:Array Value) (t:TypeId) (fz:Nat×Nat) (w':World) (cap:Nat) (hs:az w w') (hb:w'.heap[w.heap.size]?=some (.cells cur t fz))
    (hz:∀j,j<cur.size->¬(fz.1<=j/\j<fz.2)) (au:∀e∈es,(cellsOf e).length=sz) (hcap:es.length<=cap) (hcur:cap*sz<=cur.size)
    (hrel:∀(j:Nat) v x,cur[j]?=some v->(flat es)[j]?=some x->RV (XX E.X0 ρ st.h) w aW v x) :
    af E (bu ρ d ⟨some w.heap.size,0,sz,es.length,cap⟩) (bL st d (.arr sz es)) a w':=by
 refine h.fresh d ⟨some w.heap.size,0,sz,es.length,cap⟩ (.arr sz es) (vt hs) (λg hg=>.inl ?_) ?_
 ·have:=Option.some.inj hg;omega
 ·refine⟨rfl,rfl,hcap,au,⟨cur,t,fz,hb,hz,by simpa using hcur,?_,λj v x e1 e2=>hrel j v x (by simpa using e1) e2⟩⟩;rw[dY au];exact ac4 _ hcap
theorem Eg (h:af E ρ st a w) (d:Nat) (cs:List AV) (cur:Array Value) (t:TypeId) (w':World) (hs:az w w') (hb:w'.heap[w.heap.size]?=some (.cells cur t (0,0)))
    (hcur:cur.size=cs.length) (hrel:∀(j:Nat) v x,cur[j]?=some v->cs[j]?=some x->RV (XX E.X0 ρ st.h) w ρ v x) :
    af E (bu ρ d ⟨some w.heap.size,0,cs.length,1,1⟩) (bL st d (.var (cs.map (killC d)))) a w':=by
 refine h.fresh d ⟨some w.heap.size,0,cs.length,1,1⟩ (.var (cs.map (killC d))) (vt hs) (λg hg=>.inl ?_) ?_
 ·have:=Option.some.inj hg;omega
 ·refine⟨_,rfl,cur,t,(0,0),hb,λj _ hj=>by simp at hj,by simp;omega,by simp,λj v x e1 e2=>?_⟩;rw[List.getElem?_map]at e2;obtain⟨x',e3,rfl⟩:=acE.1 e2;exact(hrel j v x' (by simpa using e1) e3).killC d _
end
def bR (id sz:Nat) (es:List AV):AV->AV
 | .sl i o n=>if i=id then .ro sz (aB es o n)else .sl i o n
 | .ptr i j f=>if i=id then .undef else .ptr i j f
 | .aa i f=>if i=id then .undef else .aa i f
 | .agg _=>.undef
 | .ab _=>.undef
 | .gd _ _=>.undef
 | .aA _ _=>.undef
 | x=>x
def cO (id sz:Nat) (es:List AV):AV->AV
 | .agg cs=>.agg (cs.map (bR id sz es))
 | .aA f cs=>.aA f (cs.map (bR id sz es))
 | x=>bR id sz es x
def bn (id sz:Nat) (es:List AV):AV->AV
 | .ab cs=>.ab (cs.map (cO id sz es))
 | .gd b x=>.gd b (cO id sz es x)
 | x=>cO id sz es x
def frzS (id sz:Nat) (es:List AV):List (Nat×AV)->List (Nat×AV)
 | []=>[]
 | (k,v)::r=>(k,bn id sz es v)::frzS id sz es r
def mV (id sz:Nat) (es:List AV):aC->aC
 | .arr sz' es'=>.arr sz' es'
 | .var cs=>.var (cs.map (bR id sz es))
 | .mp kd l=>.mp kd l
def frzH (id sz:Nat) (es:List AV):List (Nat×aC)->List (Nat×aC)
 | []=>[]
 | (k,v)::r=>(k,mV id sz es v)::frzH id sz es r
theorem FZ (id sz:Nat) (es:List AV) (j:Nat):∀s,sget (frzS id sz es s) j=(sget s j).map (bn id sz es)
 | []=>rfl
 | (k,v)::r=>by
  simp only[frzS,sget,FZ id sz es j r];split<;>simp
theorem tN (id sz:Nat) (es:List AV) (j:Nat):∀s,hget (frzH id sz es s) j=(hget s j).map (mV id sz es)
 | []=>rfl
 | (k,v)::r=>by
  simp only[frzH,hget,tN id sz es j r];split<;>simp
def freeze (st:St) (id:Nat):St:=
 match hget st.h id with
 | some (.arr sz es)=>⟨frzS id sz es st.s,frzH id sz es (hdel id st.h)⟩
 | _=>st
section
variable {P:Program} {E:Env} {ρ:Loc} {st:St} {a:Act} {w:World}
theorem RV.bR {id sz:Nat} {es:List AV} {X X':Nat->Prop} (hX:∀b,¬X b->¬X' b)
    (hread:∀off n c L A,ρ id=some L->off+n<=L.fh->n<=c->off+c<=L.cap->(c=0\/A=L.b.map λb=>⟨b,L.o+off*L.sz,none⟩)->RV X' w ρ (.slice A n c) (.ro sz (aB es off n)))
    {v:Value} {x:AV} (h:RV X w ρ v x):RV X' w ρ v (bR id sz es x):=by
 have up:RV X' w ρ v x:=h.mono (λ_ _ _=>rfl) (λb _ hb=>hX b hb) ρ (λ_ _ h=>h)
 cases h with
 | sl _ i off n c L A hL h1 h2 h3 hA=>
  show RV X' w ρ _ (if i=id then .ro sz (aB es off n)else .sl i off n)
  split
  ·rename_i e;subst e;exact hread off n c L A hL h1 h2 h3 hA
  ·exact up
 | ptr _ i j f L b hL hb hi hf=>
  show RV X' w ρ _ (if i=id then .undef else .ptr i j f)
  split;exact .undef _ _
  ·exact up
 | dk _ i L b hL hb hm hz=>
  show RV X' w ρ _ (if i=id then .undef else .ptr i 0 0)
  split;exact .undef _ _
  ·exact up
 | aa _ i f L b hL hb=>
  show RV X' w ρ _ (if i=id then .undef else .aa i f)
  split;exact .undef _ _
  ·exact up
 | agg _ vs cs hlen hrel=>exact .undef _ _
 | ab _ vs cs hlen hrel=>exact .undef _ _
 | gd _ b x v h h'=>exact .undef _ _
 | aA _ f vs cs hlen hrel=>exact .undef _ _
 | undef _ v=>exact up
 | bool _ b=>exact up
 | int _ k n=>exact up
 | fl _ k b=>exact up
 | cx _ k re im=>exact up
 | str _ s=>exact up
 | lit _ x=>exact up
 | an _=>exact up
 | ro _ A c sz es vs hc au hlen hcell hrel=>exact up
 | ao _ ad x vs hsp hlen hcell hrel=>exact up
theorem RV.cO {id sz:Nat} {es:List AV} {X X':Nat->Prop} (hX:∀b,¬X b->¬X' b)
    (hread:∀off n c L A,ρ id=some L->off+n<=L.fh->n<=c->off+c<=L.cap->(c=0\/A=L.b.map λb=>⟨b,L.o+off*L.sz,none⟩)->RV X' w ρ (.slice A n c) (.ro sz (aB es off n)))
    {v:Value} {x:AV} (h:RV X w ρ v x):RV X' w ρ v (cO id sz es x):=by
 cases x with
 | agg cs=>
  cases h with
  | agg _ vs _ hlen hrel=>
   refine .agg _ _ _ (by simpa using hlen) (λj v a h1 h2=>?_);rw[List.getElem?_map]at h2;obtain⟨a',h3,rfl⟩:=acE.1 h2
   exact RV.bR hX hread (hrel j v a' h1 h3)
 | aA f cs=>
  cases h with
  | aA _ _ vs _ hlen hrel=>
   refine .aA _ _ _ _ (by simpa using hlen) (λj v a h1 h2=>?_);rw[List.getElem?_map]at h2;obtain⟨a',h3,rfl⟩:=acE.1 h2
   exact RV.bR hX hread (hrel j v a' h1 h3)
 | _=>exact RV.bR hX hread h
theorem RV.bn {id sz:Nat} {es:List AV} {X X':Nat->Prop} (hX:∀b,¬X b->¬X' b)
    (hread:∀off n c L A,ρ id=some L->off+n<=L.fh->n<=c->off+c<=L.cap->(c=0\/A=L.b.map λb=>⟨b,L.o+off*L.sz,none⟩)->RV X' w ρ (.slice A n c) (.ro sz (aB es off n)))
    {v:Value} {x:AV} (h:RV X w ρ v x):RV X' w ρ v (bn id sz es x):=by
 cases x with
 | ab cs=>
  cases h with
  | ab _ vs _ hlen hrel=>
   refine .ab _ _ _ (by simpa using hlen) (λj v a h1 h2=>?_);rw[List.getElem?_map]at h2;obtain⟨a',h3,rfl⟩:=acE.1 h2
   exact RV.cO hX hread (hrel j v a' h1 h3)
 | gd b x=>exact .gd _ _ _ _ (λhb=>RV.cO hX hread (h.mW hb)) h.xy
 | _=>exact RV.cO hX hread h
theorem xw (h:af E ρ st a w) {id sz:Nat} {es:List AV} (hid:hget st.h id=some (.arr sz es)) :
    ∀b,¬XX E.X0 ρ st.h b->¬XX E.X0 ρ (frzH id sz es (hdel id st.h)) b:=by
 intro b hn hx;rcases hx with hx | ⟨j,W',L',h1,h2,h3⟩;exact hn (.inl hx)
 ·rw[tN,jv]at h1;split at h1
  ·cases h1
  ·obtain⟨W0,g1,g2⟩:=acE.1 h1;exact hn (.inr ⟨j,W0,L',g1,h2,h3⟩)
theorem CF (h:af E ρ st a w) {id sz:Nat} {es:List AV} (hid:hget st.h id=some (.arr sz es)) :
    ∀off n c L A,ρ id=some L->off+n<=L.fh->n<=c->off+c<=L.cap->(c=0\/A=L.b.map λb=>⟨b,L.o+off*L.sz,none⟩) ->
     RV (XX E.X0 ρ (frzH id sz es (hdel id st.h))) w ρ (.slice A n c) (.ro sz (aB es off n)):=by
 intro off n c L A hL h1 h2 h3 hA;obtain⟨vs,hr,hn⟩:=rr h hid hL h1 h2 h3 hA;have hX:=xw h hid
 have:=RV.ro (X:=XX E.X0 ρ (frzH id sz es (hdel id st.h))) (w:=w) ρ A c sz (aB es off n) vs acB hr.au (by rw[dY hr.au,hr.len])
  (λj hj=>by
   obtain⟨ad,g1,g2,g3⟩:=hr.cell j hj;refine⟨ad,g1,g2,λhx=>?_,g3⟩
   have hc:c≠0:=by
    intro e;have:n=0:=acB;rw[hr.len,hn,this]at hj;omega
   rcases hA with hA | hA;exact hc hA
   ·rw[hA]at g1
    cases hb:L.b with
    | none=>rw[hb]at g1;cases g1
    | some b=>
     rw[hb]at g1;obtain rfl:=Option.some.inj g1;rcases hx with hx | ⟨k,W',L',e1,e2,e3⟩;exact h.heap.out id _ L b hid hL hb hx
     ·rw[tN,jv]at e1;split at e1
      ·cases e1
      ·rename_i hne;obtain⟨W0,q1,q2⟩:=acE.1 e1
       exact hne (h.heap.cw k id W0 _ L' L b q1 hid e2 hL e3 hb))
  (λj v x e1 e2=>(hr.rel j v x e1 e2).mono (λ_ _ _=>rfl) (λb _ hb=>hX b hb) aW (λ_ _ h=>h))
 rw[hn]at this;exact this
theorem af.freeze (h:af E ρ st a w) (id:Nat):af E ρ (freeze st id) a w:=by
 unfold Eng.freeze;split
 ·rename_i sz es hid;have hX:=xw h hid;have hrd:=CF h hid
  have hget':∀j W',hget (frzH id sz es (hdel id st.h)) j=some W'->j≠id/\∃W0,hget st.h j=some W0/\W'=mV id sz es W0:=by
   intro j W' hj;rw[tN,jv]at hj;split at hj
   ·cases hj
   ·rename_i hne;obtain⟨W0,g1,g2⟩:=acE.1 hj;exact⟨hne,W0,g1,g2.symm⟩
  refine⟨h.defers,h.size,λk av hk=>?_,⟨λj W' hj=>?_,λi j W1 W2 L1 L2 b h1 h2 h3 h4 h5 h6=>?_,λj W' L' b h1 h2 h3 hx=>?_⟩,λj W' L' b h1 h2 h3=>?_,h.ai,h.x0⟩
  ·simp only at hk;rw[FZ]at hk;obtain⟨av0,h1,rfl⟩:=acE.1 hk;obtain⟨h2,h3⟩:=h.aM k av0 h1;exact⟨h2,RV.bn hX hrd h3⟩
  ·obtain⟨hne,W0,g1,rfl⟩:=hget' j W' hj;obtain⟨L0,g2,g3⟩:=h.heap.win j W0 g1;refine⟨L0,g2,?_⟩
   cases W0 with
   | arr sz' es'=>exact g3.mono (λ_ _=>rfl) (λ_ _ _=>rfl) (λb _ hb=>hX b hb) (λ_ _ h=>h)
   | var cs=>
    obtain⟨b,q1,cur,t,fz,q2,q3,q4,q5,q6⟩:=g3;refine⟨b,q1,cur,t,fz,q2,q3,by simpa using q4,by simp,λj v x e1 e2=>?_⟩;rw[List.getElem?_map]at e2;obtain⟨x',e3,rfl⟩:=acE.1 e2
    exact RV.bR hX hrd (q6 j v x' e1 e3)
   | mp kd l=>exact g3.mono (λ_ _=>rfl) (λ_ _ _=>rfl) (λb _ hb=>hX b hb) (λ_ _ h=>h) (ρ':=ρ)
  ·obtain⟨_,V1,g1,_⟩:=hget' i W1 h1;obtain⟨_,V2,g2,_⟩:=hget' j W2 h2;exact h.heap.cw i j V1 V2 L1 L2 b g1 g2 h3 h4 h5 h6
  ·obtain⟨_,V1,g1,_⟩:=hget' j W' h1;exact h.heap.out j V1 L' b g1 h2 h3 hx
  ·obtain⟨_,V1,g1,_⟩:=hget' j W' h1;exact h.base j V1 L' b g1 h2 h3
 exact h
def keepV (st:St) (v:AV) (K:AV->St->Prop):Prop:=
 match v with
 | .sl id o n=>match hget st.h id with
  | some (.arr sz es)=>K (.ro sz (aB es o n)) (freeze st id)
  | _=>False
 | v=>bF v=true/\aD v=true/\K v st
theorem DI (h:af E ρ st a w) {v:Value} {x:AV} {K:AV->St->Prop} (hx:RV (XX E.X0 ρ st.h) w ρ v x) (hk:keepV st x K) :
    ∃av st',af E ρ st' a w/\(∀b,¬XX E.X0 ρ st.h b->¬XX E.X0 ρ st'.h b)/\RV (XX E.X0 ρ st'.h) w ρ v av/\bF av=true/\aD av=true/\K av st':=by
 unfold keepV at hk;split at hk
 ·rename_i id o n;split at hk
  ·rename_i sz es hid;have hf:=h.freeze id;have e:Eng.freeze st id=⟨frzS id sz es st.s,frzH id sz es (hdel id st.h)⟩:=by unfold Eng.freeze;rw[hid]
   cases hx with
   | sl _ _ _ _ c L A hL h1 h2 h3 hA=>
    refine⟨_,_,hf,?_,?_,rfl,rfl,hk⟩
    ·rw[e];exact xw h hid
    ·rw[e];exact CF h hid o n c L A hL h1 h2 h3 hA
  exact hk.elim
 exact⟨_,st,h,λ_ h=>h,hx,hk.1,hk.2.1,hk.2.2⟩
def qE (st:St):List AE->(List AV->St->Prop)->Prop
 | [],K=>K [] st
 | x::r,K=>keepV st (ev st x) λv st1=>qE st1 r λvs st2=>K (v::vs) st2
theorem DG:∀(xs:List Operand) {ρ:Loc} {st:St} (K:List AV->St->Prop),af E ρ st a w->qE st (xs.map trE) K ->
    ∃avs st',af E ρ st' a w/\(∀b,¬XX E.X0 ρ st.h b->¬XX E.X0 ρ st'.h b)/\avs.length=xs.length/\(∀(j:Nat) x v,xs[j]?=some x->avs[j]?=some v->RV (XX E.X0 ρ st'.h) w ρ (a.eval x) v/\bF v=true/\aD v=true)/\K avs st'
 | [],ρ,st,K,h,hk=>⟨[],st,h,λ_ h=>h,rfl,λj x v h1 h2=>by simp at h1,hk⟩
 | x::r,ρ,st,K,h,hk=>by
  obtain⟨av,st1,h1,h2,h3,h4,h5,h6⟩:=DI h (a6 h x) hk;obtain⟨avs,st2,g1,g2,g3,g4,g5⟩:=DG r (λvs st2=>K (av::vs) st2) h1 h6;refine⟨av::avs,st2,g1,λb hb=>g2 b (h2 b hb),by simp[g3],λj x' v e1 e2=>?_,g5⟩
  cases j with
  | zero=>
   simp at e1 e2;subst e1;subst e2
   exact⟨h3.mono (λ_ _ _=>rfl) (λb _ hb=>g2 b hb) ρ (λ_ _ h=>h),h4,h5⟩
  | succ j=>exact g4 j x' v (by simpa using e1) (by simpa using e2)
theorem Cs (sz:Nat):∀(ps:List (Nat×Value)) (k:Nat) (cells:Array Value),ps.map (·.1)=List.range' k ps.length->(∀q∈ps,q.2.cells.size=sz)->(k+ps.length)*sz<=cells.size ->
    ∃out,Instr.fill (λi=>some (i*sz,sz)) cells ps=some out/\out.size=cells.size/\∀m,out[m]?=if k*sz<=m/\m<(k+ps.length)*sz then(ps.flatMap λq=>q.2.cells.toList)[m-k*sz]? else cells[m]?
 | [],k,cells,_,_,_=>⟨cells,rfl,rfl,λm=>by simp only[ac9,adA];rw[if_neg acB]⟩
 | q::r,k,cells,hm,hs,hb=>by
  obtain⟨i,v⟩:=q;simp only[adk,acH,List.range'_succ,List.cons.injEq]at hm;obtain⟨rfl,hm⟩:=hm;have hv:v.cells.size=sz:=hs (i,v) (acU ..);have hmul:(i+(r.length+1))*sz=i*sz+sz+r.length*sz:=by rw[ad7,adS];omega
  simp only[acH]at hb
  obtain⟨out,h1,h2,h3⟩:=Cs sz r (i+1) (v.cells.zipIdx.foldl (λcs (x:Value×Nat)=>cs.setIfInBounds (i*sz+x.2) x.1) cells) hm (λq hq=>hs q (acV _ hq))
   (by rw[<-aem,aei,vI];have:(i+1+r.length)*sz=(i+(r.length+1))*sz:=by congr 1;omega
       omega)
  have au:(v.cells.zipIdx.foldl (λcs (x:Value×Nat)=>cs.setIfInBounds (i*sz+x.2) x.1) cells).size=cells.size:=by rw[<-aem,aei,vI]
  refine⟨out,?_,by rw[h2,au],λm=>?_⟩
  ·unfold Instr.fill;simp only;rw[if_neg (by simp only[aee,decide_eq_true_eq,not_or];exact⟨by simpa using hv,acB⟩)];exact h1
  ·rw[h3 m,<-aem,aei,zI];have e1:(i+1)*sz=i*sz+sz:=adS i sz;have e2:(i+1+r.length)*sz=i*sz+sz+r.length*sz:=by rw[ad7,e1]
   have e3:(((i,v)::r).flatMap λq=>q.2.cells.toList)=v.cells.toList++r.flatMap λq=>q.2.cells.toList:=by simp
   have hvl:v.cells.toList.length=sz:=by simpa using hv
   simp only[acH];simp only[hmul,e1,e2,e3];by_cases h4:m<i*sz
   ·rw[if_neg acB,if_neg acB,if_neg acB]
   ·by_cases h5:m<i*sz+sz
    ·rw[if_neg acB,if_pos ⟨acB,acB,acB⟩,if_pos acB,List.getElem?_append_left acB]
     congr 1
    ·by_cases h6:m<i*sz+sz+r.length*sz
     ·rw[if_pos acB,if_pos acB,List.getElem?_append_right acB,hvl]
      congr 1
      omega
     ·rw[if_neg acB,if_neg acB,if_neg acB]
end
end Go.Proofs.YtgghhaahnpbnmaaGreatDoor.Eng
namespace Go.Proofs.YtgghhaahnpbnmaaGreatDoor.Eng
def ub (b:UInt8):AV:=.int .u8 b.toNat
def srcE (sz:Nat) (st:St) (x:AV):Option (List AV):=
 match x with
 | .str l=>if sz=1 then some (l.map ub)else none
 | x=>slE sz st x
def effApp (d:Nat) (st:St) (sz bytes:Nat) (s x:AV) (K:AV->St->Prop):Prop:=
 match srcE sz st x with
 | some xs=>xs.all aD=true/\match s with
  | .an=>xs.length*bytes<=140737488355328/\xs.length<=9223372036854775807/\K (.sl d 0 xs.length) (bL st d (.arr sz xs))
  | .sl id off n=>match hget st.h id with
   | some (.arr sz' es)=>sz'=sz/\(aB es off n).all aD=true/\(n+xs.length)*bytes<=140737488355328/\n+xs.length<=9223372036854775807/\K (.sl id 0 (n+xs.length)) (bL st id (.arr sz (aB es off n++xs)))
   | _=>False
  | _=>False
 | none=>False
def jG (e:AV) (f:Nat) (v:AV):AV:=if f=0/\(cellsOf v).length=(cellsOf e).length then v else .agg (bV (cellsOf e) f (cellsOf v))
def effSt (st:St) (n:Nat) (x v:AV) (K:AV->St->Prop):Prop:=
 match x with
 | .ptr id i f=>keepV st v λv st=>(cellsOf v).length=n/\0<n/\match hget st.h id with
  | some (.arr sz es)=>f+n<=sz/\K .undef ⟨st.s,bo st.h id (.arr sz (es.set i (jG (nth es i) f v)))⟩
  | _=>False
 | .aa id f=>aD v=true/\(cellsOf v).length=n/\match hget st.h id with
  | some (.var cs)=>f+n<=cs.length/\K .undef ⟨st.s,bo st.h id (.var (bV cs f (cellsOf v)))⟩
  | _=>False
 | _=>False
def effMup (st:St) (kd:Option IntKind) (x:AV) (k:Option MK) (v:AV) (K:AV->St->Prop):Prop:=
 match x,k with
 | .ptr id _ _,some k=>match hget st.h id with
  | some (.mp kd' l)=>(kd'=kd/\MK.ok kd k/\bF v=true)/\K .undef ⟨st.s,bo st.h id (.mp kd (mput l k v))⟩
  | _=>False
 | _,_=>False
def packC:List AV->AV
 | [x]=>x
 | l=>.agg l
def eff (d:Nat) (st:St) (o:AO) (K:AV->St->Prop):Prop:=
 match o with
 | .alloc z=>z.all noRefC=true/\K (.aa d 0) (bL st d (.var (z.map (killC d))))
 | .box n x=>aD (ev st x)=true/\(cellsOf (ev st x)).length=n/\K (.aa d 0) (bL st d (.var ((cellsOf (ev st x)).map (killC d))))
 | .mE sz xs=>qE st xs λes st'=>es.all (λe=>(cellsOf e).length==sz)=true/\K (.sl d 0 es.length) (bL st' d (.arr sz es))
 | .app sz bytes s x=>effApp d st sz bytes (ev st s) (ev st x) K
 | .st n x v=>effSt st n (ev st x) (ev st v) K
 | .nz x=>match ev st x with
  | .str l=>K (.sl d 0 l.length) (bL st d (.arr 1 (l.map ub)))
  | _=>False
 | .ni sz bytes z l c=>match ev st l,ev st c with
  | .int .i64 n,.int .i64 m=>(0<=n/\m=n/\n<=16777216/\n*bytes<=16777216/\z.all noRefC=true/\z.length=sz)/\K (.sl d 0 n.toNat) (bL st d (.arr sz (List.replicate n.toNat (packC z))))
  | _,_=>False
 | .nh kd=>K (.ptr d 0 0) (bL st d (.mp kd []))
 | .nj kd x k v=>effMup st kd (ev st x) (mkOf (ev st k)) (ev st v) K
 | _=>False
section
variable {P:Program} {E:Env} {ρ:Loc} {st:St} {a:Act} {w:World} {K:AV->St->Prop}
def zP (P:Program) (E:Env) (a:Act) (w:World) (s:Sem Next) (q:Bool) (K:AV->St->Prop):Prop:=
 ∃nx v w' ρ' st' av,s.run P w=.ok nx w'/\(nx=.value v\/(nx=.skip/\v=undef))/\af E ρ' st' a w'/\RV (XX E.X0 ρ' st'.h) w' ρ' v av/\K av st'/\(q=true->az w w')
theorem lu (ρ:Loc) (d:Nat) (L:LW):bu ρ d L d=some L:=by simp[bu]
theorem zH {t:TypeId} {z:List AV} (h:zeroCells P t=some z):∃i v,P.info? t=some i/\i.zero=some v/\z=v.cells.toList.map constC:=by
 unfold zeroCells at h;split at h
 ·rename_i i hi;split at h
  ·rename_i v hv;exact⟨i,v,hi,hv,(Option.some.inj h).symm⟩
  ·cases h
 ·cases h
theorem H4 (h:af E ρ st a w) (d:Nat) {t:TypeId} {z:List AV} (hz:zeroCells P t=some z) (hn:z.all noRefC=true) (hk:K (.aa d 0) (bL st d (.var (z.map (killC d))))) :
    ∃v w' ρ' st' av,(Instr.alloc t true (.tuple #[])).run P w=.ok v w'/\af E ρ' st' a w'/\RV (XX E.X0 ρ' st'.h) w' ρ' v av/\K av st'/\az w w':=by
 obtain⟨i,v,h1,h2,rfl⟩:=zH hz;refine⟨.pointer (some ⟨w.heap.size,0,none⟩),w.alloc (.cells v.cells t),_,_,.aa d 0,?_,Eg h d (v.cells.toList.map constC) v.cells t (w.alloc (.cells v.cells t)) (az.alloc _ _) (heap_alloc_new _ _) (by simp) (λj u x e1 e2=>?_),?_,hk,az.alloc _ _⟩
 ·simp[Instr.alloc,zeroValue,typeInfo,h1,h2,newVar,newRow]
 ·rw[List.getElem?_map,Array.getElem?_toList,e1]at e2;simp at e2;subst e2;exact RV.constC _
 ·have:=RV.aa (X:=XX E.X0 (bu ρ d ⟨some w.heap.size,0,(v.cells.toList.map constC).length,1,1⟩) (bL st d (.var ((v.cells.toList.map constC).map (killC d)))).h) (w:=w.alloc (.cells v.cells t)) (bu ρ d ⟨some w.heap.size,0,(v.cells.toList.map constC).length,1,1⟩) d 0 _ w.heap.size (lu _ _ _) rfl;exact this
theorem Kl (h:af E ρ st a w) (d:Nat) {t:TypeId} {v:Value} {x:AV} (hx:RV (XX E.X0 ρ st.h) w ρ v x) (hc:aD x=true) (hk:K (.aa d 0) (bL st d (.var ((cellsOf x).map (killC d))))) :
    ∃v' w' ρ' st' av,(Instr.box t v).run P w=.ok v' w'/\af E ρ' st' a w'/\RV (XX E.X0 ρ' st'.h) w' ρ' v' av/\K av st'/\az w w':=by
 obtain⟨h1,h2,h3⟩:=hx.cells hc;refine⟨.pointer (some ⟨w.heap.size,0,none⟩),w.alloc (.cells v.cells t),_,_,.aa d 0,?_,Eg h d (cellsOf x) v.cells t (w.alloc (.cells v.cells t)) (az.alloc _ _) (heap_alloc_new _ _) h1 (λj u y e1 e2=>h3 j u y (by simpa using e1) e2),?_,hk,az.alloc _ _⟩
 ·simp[Instr.box,newVar,newRow]
 exact RV.aa _ d 0 _ w.heap.size (lu _ _ _) rfl
theorem CA {sz:Nat}:∀{vs:List Value} {es:List AV},vs.length=es.length->(∀(j:Nat) v e,vs[j]?=some v->es[j]?=some e->v.cells.size=sz/\(cellsOf e).length=sz) ->
    ∀(j:Nat) u x,(vs.flatMap λv=>v.cells.toList)[j]?=some u->(flat es)[j]?=some x->∃(i k:Nat) (v:Value) (e:AV),vs[i]?=some v/\es[i]?=some e/\v.cells.toList[k]?=some u/\(cellsOf e)[k]?=some x
 | [],[],_,_,j,u,x,e1,_=>by simp at e1
 | [],e::r,hl,_,_,_,_,_,_=>by simp at hl
 | v::r,[],hl,_,_,_,_,_,_=>by simp at hl
 | v::r,e::r',hl,hs,j,u,x,e1,e2=>by
  obtain⟨h1,h2⟩:=hs 0 v e rfl rfl;have f1:((v::r).flatMap λv=>v.cells.toList)=v.cells.toList++r.flatMap λv=>v.cells.toList:=by simp
  have f2:flat (e::r')=cellsOf e++flat r':=by simp[flat]
  rw[f1]at e1;rw[f2]at e2;have hvl:v.cells.toList.length=sz:=by simpa using h1
  by_cases hj:j<sz
  ·rw[List.getElem?_append_left acB]at e1 e2;exact⟨0,j,v,e,rfl,rfl,e1,e2⟩
  ·rw[List.getElem?_append_right acB]at e1 e2;rw[hvl]at e1;rw[h2]at e2;obtain⟨i,k,v',e',g1,g2,g3,g4⟩:=CA (vs:=r) (es:=r') (by simpa using hl) (λj v e a1 a2=>hs (j+1) v e a1 a2) (j-sz) u x e1 e2;exact⟨i+1,k,v',e',g1,g2,g3,g4⟩
theorem Ko (h:af E ρ st a w) (d:Nat) {t e:TypeId} {sz len:Nat} {parts:List (Nat×Operand)} (ht:P.underlying t=some (.slice e)) (hs:bP P e=some sz) {z:List AV} (hz:zeroCells P e=some z)
    (hzl:z.length=sz) (hp:parts.map (·.1)=List.range len) (hbig:len*sz<=2^24)
    (hk:qE st (parts.map λq=>trE q.2) λes st'=>es.all (λe=>(cellsOf e).length==sz)=true/\K (.sl d 0 es.length) (bL st' d (.arr sz es))) :
    ∃v' w' ρ' st' av,(Instr.buildSlice t len ((parts.map λq=>(q.1,a.eval q.2)).toArray)).run P w=.ok v' w'/\af E ρ' st' a w'/\RV (XX E.X0 ρ' st'.h) w' ρ' v' av/\K av st'/\az w w':=by
 have hmap:(parts.map λq=>trE q.2)=(parts.map (·.2)).map trE:=by simp
 rw[hmap]at hk;obtain⟨es,st',h1,h2,h3,h4,h5,h6⟩:=DG (parts.map (·.2)) _ h hk;have aL:parts.length=len:=by have:=congrArg List.length hp;simpa using this
 have hel:es.length=len:=by rw[h3];simpa using aL
 obtain⟨i,zv,hi,hzv,hzz⟩:=zH hz;have hzs:zv.cells.size=sz:=by rw[hzz]at hzl;simpa using hzl
 have hesz:∀e∈es,(cellsOf e).length=sz:=λe he=>by simpa using acI.1 h5 e he
 let vals:List Value:=parts.map λq=>a.eval q.2
 have hval:∀(j:Nat) v e,vals[j]?=some v->es[j]?=some e->RV (XX E.X0 ρ st'.h) w ρ v e/\bF e=true/\aD e=true:=by
  intro j v e e1 e2;simp only[vals,List.getElem?_map,acE]at e1;obtain⟨q,e3,rfl⟩:=e1;exact h4 j q.2 e (by simp[e3]) e2
 have hcell:∀(j:Nat) v e,vals[j]?=some v->es[j]?=some e->v.cells.size=sz/\(cellsOf e).length=sz:=by
  intro j v e e1 e2;obtain⟨g1,g2,g3⟩:=hval j v e e1 e2;have he:e∈es:=acS e2;exact⟨by rw[(g1.cells g3).1];exact hesz e he,hesz e he⟩
 let zs:Array Value:=(Array.range (len*sz)).map ((if len*sz=0 then #[]else zv.cells)[·%(if len*sz=0 then #[]else zv.cells).size]!)
 obtain⟨out,o1,o2,o3⟩:=Cs sz (parts.map λq=>(q.1,a.eval q.2)) 0 zs (by simp only[adD,acY,aL];rw[<-List.range_eq_range',<-hp];rfl)
  (λq hq=>by
   obtain⟨j,hj,rfl⟩:=aeW hq;have hj':j<parts.length:=by simpa using hj
   have e1:vals[j]?=some (a.eval parts[j].2):=by simp[vals,hj']
   have e2:es[j]?=some (es[j]' acB):=List.getElem?_eq_getElem _
   simpa using(hcell j _ _ e1 e2).1)
  (by simp[zs,aL])
 have hos:out.size=len*sz:=by rw[o2];simp[zs]
 have hfm:((parts.map λq=>(q.1,a.eval q.2)).flatMap λq=>q.2.cells.toList)=vals.flatMap λv=>v.cells.toList:=by
  simp only[vals,List.flatMap_map]
 refine⟨.slice (some ⟨w.heap.size,0,none⟩) es.length len,w.alloc (.cells out e),_,_,.sl d 0 es.length,?_,ur h1 d sz es out e (0,0) (w.alloc (.cells out e)) len (az.alloc _ _) (heap_alloc_new _ _) (λj _ hj=>by simp at hj) hesz acB acB (λj v x e1 e2=>?_),?_,h6,az.alloc _ _⟩
 ·rw[hel];have hb:¬(len*sz > 2^24):=acB;have hfill:Instr.fill (λi=>some (i*sz,sz)) zs (parts.map λq=>(q.1,a.eval q.2))=some out:=o1;by_cases h0:len*sz=0
  ·have hz0:zs=#[]:=by simp[zs,h0]
   rw[hz0]at hfill;simp[Instr.buildSlice,run_underlying ht,run_sizeOf hs,h0,hfill,newRow,Array.range_zero']
  ·simp only[zs,h0,if_false]at hfill;simp[Instr.buildSlice,run_underlying ht,run_sizeOf hs,h0,zeroValue,typeInfo,hi,hzv,hfill,newRow];omega
 ·have hj:j<len*sz:=by
   have:=(Array.getElem?_eq_some_iff.1 e1).1;omega
  rw[o3 j]at e1;have hl2:(0+(parts.map λq=>(q.1,a.eval q.2)).length)*sz=len*sz:=by simp[aL]
  rw[if_pos (by rw[hl2];omega),hfm]at e1;simp only[Nat.zero_mul,ae3]at e1;obtain⟨i',k',v',e',g1,g2,g3,g4⟩:=CA (vs:=vals) (es:=es) (by simp[vals,aL,hel]) hcell j v x e1 e2;obtain⟨q1,q2,q3⟩:=hval i' v' e' g1 g2;exact((q1.cells q3).2.2 k' v x g3 g4).nD (Ej q2 x (acS g4)) aW
 exact .sl _ d 0 es.length len ⟨some w.heap.size,0,sz,es.length,len⟩ (some ⟨w.heap.size,0,none⟩) (lu _ _ _) (by simp) acB (by simp) (.inr (by simp))
theorem V0 {z:List AV} (h:z.all noRefC=true):cellsOf (packC z)=z:=by
 unfold packC;split
 ·rename_i x;have hx:noRefC x=true:=by simpa using h
  cases x<;>first | rfl | cases hx
 rfl
theorem CC (z:List AV):∀n (j:Nat),0<z.length->j<n*z.length->((List.replicate n z).flatten)[j]?=z[j%z.length]?
 | 0,j,_,h=>by omega
 | n+1,j,hz,h=>by
  rw[adO,List.flatten_cons];by_cases hj:j<z.length
  ·rw[List.getElem?_append_left hj,acL hj]
  ·rw[List.getElem?_append_right acB,CC z n (j-z.length) hz (by rw[adS]at h;omega),<-Nat.mod_eq_sub_mod acB]
theorem UB (h:af E ρ st a w) (d:Nat) {t e:TypeId} {i:TypeInfo} {z:List AV} (ht:P.underlying t=some (.slice e)) (hi:P.info? e=some i) (hz:zeroCells P e=some z) (hzl:z.length=i.size) {n:Nat}
    (hb:(n:Int)*i.bytes<=16777216) (hn:z.all noRefC=true) (hw:n<9223372036854775808) (hk:K (.sl d 0 n) (bL st d (.arr i.size (List.replicate n (packC z))))) :
    ∃v w' ρ' st' av,(Instr.makeSlice t (.int .i64 n) (.int .i64 n)).run P w=.ok v w'/\af E ρ' st' a w'/\RV (XX E.X0 ρ' st'.h) w' ρ' v av/\K av st'/\az w w':=by
 obtain⟨i',zv,hi',hzv,rfl⟩:=zH hz;rw[hi]at hi';obtain rfl:=Option.some.inj hi';have hzs:zv.cells.size=i.size:=by simpa using hzl
 let out:Array Value:=(Array.range (n*i.size)).map ((if n*i.size=0 then #[]else zv.cells)[·%(if n*i.size=0 then #[]else zv.cells).size]!)
 have hos:out.size=n*i.size:=by simp[out]
 have hcl:=V0 hn
 have hfl:flat (List.replicate n (packC (zv.cells.toList.map constC)))=(List.replicate n (zv.cells.toList.map constC)).flatten:=by
  unfold flat;rw[List.flatMap_replicate,hcl]
 refine⟨.slice (some ⟨w.heap.size,0,none⟩) n n,w.alloc (.cells out e),_,_,.sl d 0 n,?_,ur h d i.size (List.replicate n (packC (zv.cells.toList.map constC))) out e (0,0) (w.alloc (.cells out e)) n (az.alloc _ _) (heap_alloc_new _ _) (λj _ hj=>by simp at hj)
  (λx hx=>by rw[(List.mem_replicate.1 hx).2,hcl];simpa using hzl) (by simp) acB (λj v x e1 e2=>?_),?_,hk,az.alloc _ _⟩
 ·have hwr:IntKind.i64.wrap (n:Int)=n:=IntWalk.i64_in _ acB;have hbn:n*i.bytes<=16777216:=acB;have hbc:(i.bytes:Int)*(n:Int)=((n*i.bytes:Nat):Int):=by rw[aeX,Int.mul_comm]
  have c1:¬((n:Int)<0):=acB;have c2:¬(n*i.bytes > roomBytes):=by unfold roomBytes;omega
  have c3:¬((281474976710656:Int)<(i.bytes:Int)*n):=by rw[hbc];omega
  by_cases h0:n*i.size=0
  ·simp[Instr.makeSlice,run_underlying ht,typeInfo,hi,hwr,asInt,asIntOf,askRoom,c1,c2,c3,run_sizeOf (show bP P e=some i.size by simp[bP,hi]),h0,newRow,out,Array.range_zero']
  ·simp[Instr.makeSlice,run_underlying ht,typeInfo,hi,hwr,asInt,asIntOf,askRoom,c1,c2,c3,run_sizeOf (show bP P e=some i.size by simp[bP,hi]),h0,zeroValue,hzv,newRow,out]
 ·have hj:j<n*i.size:=by
   have:=(Array.getElem?_eq_some_iff.1 e1).1;omega
  have hne:n*i.size≠0:=acB;have hpos:0<i.size:=Nat.pos_of_ne_zero (λe=>by rw[e]at hne;simp at hne);rw[hfl,CC _ n j (by simpa[hzs]using hpos) (by simpa[hzs]using hj)]at e2;simp only[out,hne,if_false,Array.getElem?_map,Array.getElem?_range]at e1;simp only[acY,Array.length_toList,hzs,List.getElem?_map,Array.getElem?_toList]at e2;rw[if_pos hj]at e1;have hm:j%i.size<zv.cells.size:=by rw[hzs];exact adV _ hpos
  simp only[ac7,hzs,Option.some.injEq]at e1;rw[getElem!_pos zv.cells (j%i.size) hm]at e1;rw[Array.getElem?_eq_getElem hm]at e2;simp only[ac7,Option.some.injEq]at e2;subst e1;subst e2;exact RV.constC _
 ·have:=RV.sl (X:=XX E.X0 (bu ρ d ⟨some w.heap.size,0,i.size,n,n⟩) (bL st d (.arr i.size (List.replicate n (packC (zv.cells.toList.map constC))))).h) (w:=w.alloc (.cells out e)) (bu ρ d ⟨some w.heap.size,0,i.size,n,n⟩) d 0 n n ⟨some w.heap.size,0,i.size,n,n⟩ (some ⟨w.heap.size,0,none⟩) (lu _ _ _) (by simp) acB (by simp) (.inr (by simp));simpa using this
theorem Uz (h:af E ρ st a w) (d:Nat) {t:TypeId} {kd:Option IntKind} (hk:K (.ptr d 0 0) (bL st d (.mp kd []))) :
    ∃v w' ρ' st' av,(Instr.makeMap t none).run P w=.ok v w'/\af E ρ' st' a w'/\RV (XX E.X0 ρ' st'.h) w' ρ' v av/\K av st'/\az w w':=by
 refine⟨.map (some w.heap.size),w.alloc (.map #[] 0),bu ρ d ⟨some w.heap.size,0,0,1,0⟩,_,.ptr d 0 0,rfl,?_,?_,hk,az.alloc _ _⟩
 ·refine h.fresh d ⟨some w.heap.size,0,0,1,0⟩ (.mp kd []) (vt (az.alloc _ _)) (λg hg=>.inl ?_) ?_
  ·have:=Option.some.inj hg;omega
  exact⟨_,rfl,by simp,rfl,#[],0,heap_alloc_new _ _,rfl,λp hp=>(by cases hp),λj e p e1 _=>by simp at e1⟩
 exact .dk _ d _ w.heap.size (lu _ _ _) rfl (by simp) rfl
theorem Vd {X:Nat->Prop} {v:Value} {x:AV} (h:RV X w ρ v x) (hn:bF x=true) (ρ':Loc):RV X w ρ' v x:=by
 cases x with
 | agg cs=>
  cases h with
  | agg _ vs _ hlen hrel=>exact .agg _ _ _ hlen (λj v a e1 e2=>(hrel j v a e1 e2).nD (acI.1 hn a (acS e2)) ρ')
 | _=>exact h.nD hn ρ'
theorem D8 (h:af E ρ st a w) {t kt et:TypeId} {kd:Option IntKind} (ht:P.underlying t=some (.map kt et)) (hkd:keyKd P kt=some kd)
    {vx vk vv:Value} {x k v:AV} (hx:RV (XX E.X0 ρ st.h) w ρ vx x) (hk:RV (XX E.X0 ρ st.h) w ρ vk k) (hv:RV (XX E.X0 ρ st.h) w ρ vv v) (hu:effMup st kd x (mkOf k) v K) :
    ∃w' st',(Instr.mapUpdate t vx vk vv).run P w=.ok () w'/\af E ρ st' a w'/\K .undef st':=by
 unfold effMup at hu;split at hu
 ·rename_i id i f k' hk';split at hu
  ·rename_i kd' l hid;obtain⟨⟨rfl,hok,hn⟩,hK⟩:=hu;obtain⟨L,b,hL,hb,hm,hz0,rfl,es,clock,m1,m2,m3,m4⟩:=DU h hid hx;obtain rfl:=D3 hk hk';have hd:=DJ hkd;have hke:=tV hok;have hv':=Vd hv hn aW;have hf:=xm hok es.toList l 0 (by simpa using m2) m3 (λj e p e1 e2=>(m4 j e p (by simpa using e1) e2).1)
   have go:∀(es':Array MapEntry) (clock':Nat) (l':List (MK×AV)),es'.size=l'.length->(∀p∈l',MK.ok kd' p.1) ->
       (∀(j:Nat) e p,es'[j]?=some e->l'[j]?=some p->e.key=p.1.val/\RV (XX E.X0 ρ st.h) w aW e.val p.2) ->
       af E ρ ⟨st.s,bo st.h id (.mp kd' l')⟩ a {w with heap:=w.heap.setIfInBounds b (.map es' clock')}:=by
    intro es' clock' l' q1 q2 q3;have hs:=MapKept.heap_set (o':=.map es' clock') m1;refine h.modify id L _ _ hid hL ⟨rfl,rfl,rfl,by simp,λr hr hne=>hs.2 r (λe=>by subst e;exact hne _ L hid hL hb)⟩ ?_;exact⟨b,hb,hm,hz0,es',clock',hs.1,q1,q2,q3⟩
   rcases hf with⟨f1,f2,f6⟩ | ⟨j,e,p,f1,f2,f3,f4,f5,f6⟩
   ·rw[f6]at hK;refine⟨_,_,?_,go (es.push {key:=k'.val,val:=vv,born:=clock}) (clock+1) (l++[(k',v)]) (by simp[m2]) (λp hp=>?_) (λj e p e1 e2=>?_),hK⟩
    ·simp[Instr.mapUpdate,run_underlying ht,MapKept.run_getObj_map m1,MapKept.run_checkKey hd hke,MapKept.run_findKey hd f1,MapKept.run_setObj_map _ m1]
    ·rcases adh.1 hp with hp | hp;exact m3 p hp
     ·obtain rfl:=ac0.1 hp;exact hok
    ·rw[Array.getElem?_push]at e1;split at e1
     ·rename_i hj;obtain rfl:=Option.some.inj e1;rw[hj,m2,List.getElem?_append_right (acG _)]at e2;simp at e2;subst e2;exact⟨rfl,hv'⟩
     ·have hj:=(Array.getElem?_eq_some_iff.1 e1).1;rw[List.getElem?_append_left acB]at e2;exact m4 j e p e1 e2
   ·rw[f6]at hK;have hj:es[j]?=some e:=by simpa using f2
    have hke':e.key=k'.val:=by rw[(m4 j e p hj f3).1,f4]
    refine⟨_,_,?_,go (es.modify j λe=>{e with key:=k'.val,val:=vv}) clock (l.set j (k',v)) (by simp[m2]) (λp hp=>?_) (λj' e' p' e1 e2=>?_),hK⟩
    ·simp[Instr.mapUpdate,run_underlying ht,MapKept.run_getObj_map m1,MapKept.run_checkKey hd hke,MapKept.run_findKey hd f1,hj,hke',MapKept.run_keyThatStays hke,MapKept.run_setObj_map _ m1]
    ·rcases ad8 hp with hp | hp;exact m3 p hp
     ·rw[hp];exact hok
    ·rw[Array.getElem?_modify]at e1;rw[List.getElem?_set]at e2;split at e1
     ·rename_i hjj;subst hjj;rw[if_pos rfl]at e2;split at e2
      ·rw[hj]at e1;simp at e1 e2;subst e1;subst e2;exact⟨rfl,hv'⟩
      ·cases e2
     ·rename_i hjj;rw[if_neg hjj]at e2;exact m4 j' e' p' e1 e2
  exact hu.elim
 exact hu.elim
theorem CB {es:List AV} (h:∀e∈es,isCell e=true):flat es=es:=by
 induction es with
 | nil=>rfl
 | cons e r ih=>
  have:flat (e::r)=cellsOf e++flat r:=by simp[flat]
  rw[this,ih (λx hx=>h x (acV _ hx)),wE (h e (acU ..))];rfl
theorem ZH (h:af E ρ st a w) {v:Value} {x:AV} (hx:RV (XX E.X0 ρ st.h) w ρ v x) {sz:Nat} {xs:List AV} (hs:srcE sz st x=some xs) :
    ∃vs:List Value,(Builtin.lenOf v).run P w=.ok xs.length w/\vs.length=xs.length*sz/\(∀e∈xs,(cellsOf e).length=sz)/\(∀w1:World,w1.heap=w.heap->(Builtin.firstCells sz xs.length v).run P w1=.ok vs.toArray w1) /\
     ∀(j:Nat) u y,vs[j]?=some u->(flat xs)[j]?=some y->RV (XX E.X0 ρ st.h) w aW u y:=by
 have other:slE sz st x=some xs->∃vs:List Value,(Builtin.lenOf v).run P w=.ok xs.length w/\vs.length=xs.length*sz/\(∀e∈xs,(cellsOf e).length=sz)/\(∀w1:World,w1.heap=w.heap->(Builtin.firstCells sz xs.length v).run P w1=.ok vs.toArray w1) /\
     ∀(j:Nat) u y,vs[j]?=some u->(flat xs)[j]?=some y->RV (XX E.X0 ρ st.h) w aW u y:=by
  intro hs;obtain⟨A,c,vs,rfl,hc,hr⟩:=yZ h hx hs;refine⟨vs,by simp[Builtin.lenOf],hr.len,hr.au,λw1 hw1=>?_,hr.rel⟩
  have hr1:ku (XX E.X0 ρ st.h) w1 A sz xs vs:=⟨hr.au,hr.len,λj hj=>by
   obtain⟨ad,g1,g2,g3⟩:=hr.cell j hj
   exact⟨ad,g1,g2,by rw[<-g3];simp only[World.cell?,hw1]⟩,λj u y e1 e2=>(hr.rel j u y e1 e2).mono (λb _ _=>by rw[hw1]) (λb _ hb=>hb) aW (λ_ _ h=>h)⟩
  exact hr1.first xs.length c rfl
 cases x with
 | str l=>
  simp only[srcE]at hs;split at hs
  ·rename_i e;subst e;obtain rfl:=Option.some.inj hs;rw[RV.lp hx];refine⟨l.map λb=>.int .u8 b.toNat,by simp[Builtin.lenOf,mC],by simp,λe he=>?_,λw1 _=>?_,λj u y e1 e2=>?_⟩
   ·obtain⟨b,_,rfl⟩:=adu.1 he;rfl
   ·simp only[Builtin.firstCells,Sem.run_pure]
    congr 1
    simp[ByteArray.data_extract]
   ·rw[CB (λe he=>by obtain⟨b,_,rfl⟩:=adu.1 he;rfl)]at e2;rw[List.getElem?_map]at e1 e2;obtain⟨b,g1,rfl⟩:=acE.1 e1;rw[g1]at e2;simp at e2;subst e2;exact .int _ _ _
  ·cases hs
 | _=>exact other hs
theorem VJ {xs:List AV} (hc:xs.all aD=true) {vs:List Value} (hl:vs.length=(flat xs).length) {X:Nat->Prop} (hr:∀(j:Nat) u y,vs[j]?=some u->(flat xs)[j]?=some y->RV X w aW u y) :
    ∀u∈vs,u.oneCell'=true:=by
 intro u hu;obtain⟨j,hj,rfl⟩:=aeW hu;have hj':j<(flat xs).length:=acB;have hy:=List.getElem?_eq_getElem hj';refine RV.one (hr j _ _ (List.getElem?_eq_getElem hj) hy) ?_;obtain⟨e,he,hye⟩:=List.mem_flatMap.1 (adK hj');exact acI.1 (acI.1 hc e he) _ hye
theorem Yo {t u ty e:TypeId} {i:TypeInfo} {z:Value} (ht:P.underlying t=some (.slice e)) (hu:P.underlying u=some .string\/∃e',P.underlying u=some (.slice e')) (hi:P.info? e=some i) (hz:i.zero=some z)
    (A:Option Addr) (n c m:Nat) (x:Value) (olds news:List Value) (hx:(Builtin.lenOf x).run P w=.ok m w) (ho:(Builtin.firstCells i.size n (.slice A n c)).run P w.drew=.ok olds.toArray w.drew)
    (hn:(Builtin.firstCells i.size m x).run P w.drew=.ok news.toArray w.drew) (hg:c<n+m) (h63:n+m<=9223372036854775807) (hb:(n+m)*i.bytes<=140737488355328) :
    (Builtin.append_ #[t,u] ty #[.slice A n c,x]).run P w =
     .ok (.slice (some ⟨w.heap.size,0,none⟩) (n+m) (grownCap w (n+m) c e)) (w.drew.alloc (.cells (olds.toArray++news.toArray++Builtin.zeroCells z.cells (grownCap w (n+m) c e-(n+m))) e)):=by
 have h1:¬(n+m<=c):=acB;have h2:¬(9223372036854775807<(n:Int)+(m:Int)):=acB;have h3:¬(281474976710656<Builtin.nextslicecap (n+m) c*i.bytes):=Nat.not_lt.2 (growslice_fits hg hb);rcases hu with hu | ⟨e',hu⟩
 all_goals
  simp[Builtin.append_,run_underlying ht,run_underlying hu,sizeOf,typeInfo,zeroValue,hi,hz,hx,h1,h2,h3,Question.forced,ho,hn,newRow,grownCap]
  congr 2
  apply Array.ext';simp[ade]
theorem Yn {t u ty e:TypeId} {i:TypeInfo} (ht:P.underlying t=some (.slice e)) (hu:P.underlying u=some .string\/∃e',P.underlying u=some (.slice e')) (hi:P.info? e=some i)
    (b o n c m:Nat) (x:Value) (news:List Value) (cur:Array Value) (te:TypeId) (fz:Nat×Nat) (hx:(Builtin.lenOf x).run P w=.ok m w) (hnl:news.length=m*i.size)
    (hn:(Builtin.firstCells i.size m x).run P w=.ok news.toArray w) (hg:n+m<=c) (hw:w.heap[b]?=some (.cells cur te fz)) (hz:∀j,j<cur.size->¬(fz.1<=j/\j<fz.2))
    (hfit:o+n*i.size+news.length<=cur.size) (h1:∀v∈news,v.oneCell'=true) :
    (Builtin.append_ #[t,u] ty #[.slice (some ⟨b,o,none⟩) n c,x]).run P w=.ok (.slice (some ⟨b,o,none⟩) (n+m) c) (w.setRow b (bV cur.toList (o+n*i.size) news).toArray):=by
 have hst:=yV P b (o+n*i.size) te fz news 0 cur w hw hz (by simpa using hfit) h1;simp only[adA]at hst;rcases hu with hu | ⟨e',hu⟩
 all_goals
  simp[Builtin.append_,run_underlying ht,run_underlying hu,sizeOf,typeInfo,hi,hx,hg,hn,Addr.add_lit,hst,bV]
theorem Yp {t u ty e:TypeId} {i:TypeInfo} (ht:P.underlying t=some (.slice e)) (hu:P.underlying u=some .string\/∃e',P.underlying u=some (.slice e')) (hi:P.info? e=some i)
    (A:Option Addr) (x:Value) (hx:(Builtin.lenOf x).run P w=.ok 0 w) (hn:(Builtin.firstCells i.size 0 x).run P w=.ok #[] w) :
    (Builtin.append_ #[t,u] ty #[.slice A 0 0,x]).run P w=.ok (.slice A 0 0) w:=by
 rcases hu with hu | ⟨e',hu⟩<;>cases A <;>
  simp[Builtin.append_,run_underlying ht,run_underlying hu,sizeOf,typeInfo,hi,hx,hn,storeCells]
theorem xr (l r:List AV):flat (l++r)=flat l++flat r:=by simp[flat]
theorem II {R:Value->AV->Prop} {l1 l2:List Value} {m1 m2:List AV} (hl:l1.length=m1.length) (h1:∀(j:Nat) v a,l1[j]?=some v->m1[j]?=some a->R v a)
    (h2:∀(j:Nat) v a,l2[j]?=some v->m2[j]?=some a->R v a):∀(j:Nat) v a,(l1++l2)[j]?=some v->(m1++m2)[j]?=some a->R v a:=by
 intro j v a e1 e2;by_cases hj:j<l1.length
 ·rw[List.getElem?_append_left hj]at e1;rw[List.getElem?_append_left acB]at e2;exact h1 j v a e1 e2
 ·rw[List.getElem?_append_right acB]at e1 e2;rw[<-hl]at e2;exact h2 _ v a e1 e2
theorem Py (h:af E ρ st a w) (d sz:Nat) {e:TypeId} {i:TypeInfo} {z:Value} (es xs:List AV) (olds news:List Value) (hsz1:∀e∈es,(cellsOf e).length=sz) (hsz2:∀e∈xs,(cellsOf e).length=sz)
    (hzs:z.cells.size=sz) (hl1:olds.length=es.length*sz) (hl2:news.length=xs.length*sz) (cap:Nat) (hcap:es.length+xs.length<=cap)
    (hr1:∀(j:Nat) v x,olds[j]?=some v->(flat es)[j]?=some x->RV (XX E.X0 ρ st.h) w aW v x) (hr2:∀(j:Nat) v x,news[j]?=some v->(flat xs)[j]?=some x->RV (XX E.X0 ρ st.h) w aW v x)
    (w':World) (hw:w'=w.drew.alloc (.cells (olds.toArray++news.toArray++Builtin.zeroCells z.cells (cap-(es.length+xs.length))) e)) :
    af E (bu ρ d ⟨some w.heap.size,0,sz,(es++xs).length,cap⟩) (bL st d (.arr sz (es++xs))) a w':=by
 subst hw;refine ur h d sz (es++xs) _ e (0,0) _ cap ((az.drew w).trans (az.alloc _ _)) (heap_alloc_new w.drew _) (λj _ hj=>by simp at hj) (λe he=>?_) (by simpa using hcap) ?_ (λj v x e1 e2=>?_)
 ·rcases adh.1 he with h1 | h1;exact hsz1 e h1;exact hsz2 e h1
 ·simp only[Array.size_append,adm,size_zeroCells,hzs,hl1,hl2,<-ad7];exact ac4 _ acB
 ·rw[xr]at e2;have hj:j<(flat es++flat xs).length:=(List.getElem?_eq_some_iff.1 e2).1;rw[<-Array.getElem?_toList]at e1;simp only[Array.toList_append]at e1;rw[List.getElem?_append_left (by simp only[acD,hl1,hl2,dY hsz1,dY hsz2]at hj |-;exact hj)]at e1;exact II (by rw[hl1,dY hsz1]) hr1 hr2 j v x e1 e2
theorem U8 (h:af E ρ st a w) (d sz:Nat):af E (bu ρ d ⟨none,0,sz,0,0⟩) (bL st d (.arr sz [])) a w:=by
 refine h.fresh d ⟨none,0,sz,0,0⟩ (.arr sz []) (vt (az.refl w)) (λg hg=>by cases hg) ⟨rfl,rfl,acG _,λe he=>by simp at he,rfl⟩
theorem IG (h:af E ρ st a w) (d:Nat) {t u ty e:TypeId} {i:TypeInfo} {z:Value} (ht:P.underlying t=some (.slice e)) (hu:P.underlying u=some .string\/∃e',P.underlying u=some (.slice e'))
    (hi:P.info? e=some i) (hz:i.zero=some z) (hzs:z.cells.size=i.size) {vs vx:Value} {s x:AV} (hs:RV (XX E.X0 ρ st.h) w ρ vs s) (hx:RV (XX E.X0 ρ st.h) w ρ vx x) (hk:effApp d st i.size i.bytes s x K) :
    ∃v' w' ρ' st' av,(Builtin.append_ #[t,u] ty #[vs,vx]).run P w=.ok v' w'/\af E ρ' st' a w'/\RV (XX E.X0 ρ' st'.h) w' ρ' v' av/\K av st'/\(s=.an->az w w'):=by
 unfold effApp at hk;split at hk
 ·rename_i xs hxs;obtain⟨news,n1,n2,n3,n4,n5⟩:=ZH (P:=P) h hx hxs;obtain⟨hc,hk⟩:=hk;have hfl:=dY n3;have hone:=VJ hc (by rw[n2,hfl]) n5
  have grow:∀(dd:Nat) (es:List AV) (A:Option Addr) (c:Nat) (olds:List Value),vs=.slice A es.length c->c<es.length+xs.length->(∀e∈es,(cellsOf e).length=i.size)->olds.length=es.length*i.size ->
      (Builtin.firstCells i.size es.length (.slice A es.length c)).run P w.drew=.ok olds.toArray w.drew->(∀(j:Nat) v x,olds[j]?=some v->(flat es)[j]?=some x->RV (XX E.X0 ρ st.h) w aW v x) ->
      (es.length+xs.length)*i.bytes<=140737488355328->es.length+xs.length<=9223372036854775807->K (.sl dd 0 (es.length+xs.length)) (bL st dd (.arr i.size (es++xs))) ->
      ∃v' w' ρ' st' av,(Builtin.append_ #[t,u] ty #[vs,vx]).run P w=.ok v' w'/\af E ρ' st' a w'/\RV (XX E.X0 ρ' st'.h) w' ρ' v' av/\K av st'/\(s=.an->az w w'):=by
   intro dd es A c olds hv hg h1 h2 h3 h4 h5 h6 h7;have hcap:=grownCap_ge w (es.length+xs.length) c e;refine⟨_,_,_,_,_,by rw[hv];exact Yo ht hu hi hz A es.length c xs.length vx olds news n1 h3 (n4 w.drew rfl) hg h6 h5,Py h dd i.size (e:=e) (i:=i) (z:=z) es xs olds news h1 n3 hzs h2 n2 (grownCap w (es.length+xs.length) c e) hcap h4 n5 _ rfl,?_,h7,λ_=>(az.drew w).trans (az.alloc _ _)⟩;exact .sl _ dd 0 (es.length+xs.length) _ ⟨some w.heap.size,0,i.size,(es++xs).length,grownCap w (es.length+xs.length) c e⟩ _ (lu _ _ _) (by simp) hcap (by simp) (.inr (by simp))
  have zero:∀(dd:Nat) (A:Option Addr),vs=.slice A 0 0->xs=[]->K (.sl dd 0 0) (bL st dd (.arr i.size [])) ->
      ∃v' w' ρ' st' av,(Builtin.append_ #[t,u] ty #[vs,vx]).run P w=.ok v' w'/\af E ρ' st' a w'/\RV (XX E.X0 ρ' st'.h) w' ρ' v' av/\K av st'/\(s=.an->az w w'):=by
   intro dd A hv he k0;subst he;have hn0:news=[]:=aek (by simpa using n2);subst hn0;refine⟨_,_,_,_,_,by rw[hv];exact Yp ht hu hi A vx n1 (by simpa using n4 w rfl),U8 h dd i.size,?_,k0,λ_=>az.refl w⟩;exact .sl _ dd 0 0 0 ⟨none,0,i.size,0,0⟩ A (lu _ _ _) (acG _) (acG _) (acG _) (.inl rfl)
  split at hk
  ·obtain⟨k1,k2,k3⟩:=hk;have hv:vs=.slice none 0 0:=by cases hs;rfl
   cases xs with
   | nil=>exact zero d none hv rfl k3
   | cons x0 r=>
    exact grow d [] none 0 [] hv (by simp) (λe he=>by simp at he) (by simp) (run_firstCells_none ..) (λj v x e1 _=>by simp at e1) (by simpa using k1) (by simpa using k2) (by simpa using k3)
  ·rename_i id off n;split at hk
   ·rename_i sz' es hid;obtain⟨rfl,q1,q2,q3,q4⟩:=hk
    cases hs with
    | sl _ _ _ _ c L A hL h1 h2 h3 hA=>
     obtain⟨hLs,hcnt,hcap,au,hcells,hnone⟩:=jg h hid hL;obtain⟨olds,hr,hn⟩:=rr h hid hL h1 h2 h3 hA;by_cases hg:c<n+xs.length
     ·have hr1:ku (XX E.X0 ρ st.h) w.drew A i.size (aB es off n) olds:=⟨hr.au,hr.len,λj hj=>hr.cell j hj,λj u y e1 e2=>(hr.rel j u y e1 e2).mono (w':=w.drew) (λ_ _ _=>rfl) (λb _ hb=>hb) aW (λ_ _ h=>h)⟩;have:=grow id (aB es off n) A c olds (by rw[hn]) (by rw[hn];exact hg) hr.au hr.len (hr1.first _ _ rfl) hr.rel (by rw[hn];exact q2) (by rw[hn];exact q3) (by rw[hn];exact q4)
      exact this
     ·by_cases hc0:c=0
      ·obtain rfl:n=0:=acB;have hx0:xs=[]:=aek acB;subst hx0;subst hc0;have hsub:aB es off 0=[]:=aek hn;rw[hsub]at q4;exact zero id A rfl rfl (by simpa using q4)
      ·rcases hA with hA | hA;exact absurd hA hc0
       ·cases hb:L.b with
        | none=>have:=hnone hb;omega
        | some b=>
         rw[hb]at hA;subst hA;obtain⟨cur,te,fz,g1,g2,g3,g4,g5⟩:=hcells b hb;have hfs:=dY hr.au;have hm1:off*L.sz+c*L.sz<=L.cap*L.sz:=by rw[<-ad7];exact ac4 _ h3
         have hm2:n*L.sz+xs.length*L.sz<=c*L.sz:=by rw[<-ad7];exact ac4 _ acB
         rw[hLs]at hm1 hm2;have hbt:=gT h ⟨id,_,L,hid,hL,hb⟩
         refine⟨_,_,bu ρ id ⟨some b,L.o+off*i.size,i.size,n+xs.length,c⟩,bL st id (.arr i.size (aB es off n++xs)),.sl id 0 (n+xs.length),
          Yn (P:=P) (ty:=ty) ht hu hi b (L.o+off*L.sz) n c xs.length vx news cur te fz n1 n2 (n4 w rfl) acB g1 g2 (by rw[hLs,n2];omega) hone,?_,?_,q4,λe=>by cases e⟩
         ·refine h.fresh id ⟨some b,L.o+off*i.size,i.size,n+xs.length,c⟩ (.arr i.size (aB es off n++xs)) ⟨rfl,rfl,rfl,by simp,λk hk hne=>setRow_other w b k _ (λe=>by subst e;exact hne _ L hid hL hb)⟩ (λg hg=>.inr ⟨_,L,hid,hL,by rw[hb];exact hg⟩) ?_;refine⟨rfl,by simp[hn],by simp only;omega,λe he=>?_,?_⟩
          ·rcases adh.1 he with e1 | e1;exact hr.au e e1;exact n3 e e1
          ·refine⟨(bV cur.toList (L.o+off*L.sz+n*i.size) news).toArray,te,fz,setRow_heap w b cur _ te fz g1,?_,?_,?_,?_⟩
           ·have:=nv (l:=cur.toList) (k:=L.o+off*L.sz+n*i.size) (s:=news) (by rw[hLs,n2];simp;omega);intro j hj;simp only[adm,this]at hj;exact g2 j (by simpa using hj)
           ·have:=nv (l:=cur.toList) (k:=L.o+off*L.sz+n*i.size) (s:=news) (by rw[hLs,n2];simp;omega);simp only[adm,this];simp;omega
           ·rw[xr,acD,hfs,hfl,hn];omega
           ·intro j v y e1 e2;rw[xr]at e2;simp only[List.getElem?_toArray]at e1;rw[rl (by rw[hLs,n2];simp;omega)]at e1;by_cases hj:j<n*i.size
            ·rw[if_pos (by rw[hLs];omega)]at e1;rw[List.getElem?_append_left (by rw[hfs,hn];exact hj),xu au acB hj]at e2;exact g5 (off*i.size+j) v y (by rw[<-e1,Array.getElem?_toList];congr 1;omega) e2
            ·rw[List.getElem?_append_right (by rw[hfs,hn];omega),hfs,hn]at e2;have hj2:j-n*i.size<(flat xs).length:=(List.getElem?_eq_some_iff.1 e2).1;rw[if_neg (by rw[hLs];omega),if_pos (by rw[hLs,n2];rw[hfl]at hj2;omega)]at e1;exact n5 _ v y (by rw[<-e1];congr 1;rw[hLs];omega) e2
         exact .sl _ id 0 (n+xs.length) c _ _ (lu _ _ _) (by simp) acB (by simp) (.inr (by simp[hLs]))
   exact hk.elim
  exact hk.elim
 exact hk.elim
end
end Go.Proofs.YtgghhaahnpbnmaaGreatDoor.Eng
namespace Go.Proofs.YtgghhaahnpbnmaaGreatDoor.Eng
section
variable {P:Program} {E:Env} {ρ:Loc} {st:St} {a:Act} {w:World} {K:AV->St->Prop}
theorem Vi {es:List AV} {i:Nat} (hi:i<es.length) (e:AV) (q:Nat):nth (es.set i e) q=if q=i then e else nth es q:=by
 unfold nth;simp only[acC,List.getElem?_set];by_cases h:q=i
 ·subst h;simp[hi]
 ·simp[h,Ne.symm h]
theorem Ou {sz:Nat} {es:List AV} (au:∀e∈es,(cellsOf e).length=sz) {i:Nat} (hi:i<es.length) {e':AV} (he:(cellsOf e').length=sz) (j:Nat) :
    (flat (es.set i e'))[j]?=if i*sz<=j/\j<i*sz+sz then(cellsOf e')[j-i*sz]? else(flat es)[j]?:=by
 have hsz':∀e∈es.set i e',(cellsOf e).length=sz:=by
  intro e h;rcases ad8 h with h1 | h1;exact au e h1
  ·rw[h1];exact he
 have hmul:i*sz+sz<=es.length*sz:=by rw[<-adS];exact ac4 _ hi
 by_cases hj:j<es.length*sz
 ·have hs0:0<sz:=by rcases aeF sz with rfl | h0<;>omega
  have hq:j/sz<es.length:=(aeo hs0).2 hj;have hm:=adV j hs0;have hd:j/sz*sz+j%sz=j:=by rw[ae2];exact Nat.div_add_mod j sz
  have e1:=iQ (es:=es.set i e') (j/sz) (j%sz) hsz' (by simpa using hq) hm;have e2:=iQ (es:=es) (j/sz) (j%sz) au hq hm;rw[hd]at e1 e2;rw[e1,Vi hi];by_cases h:j/sz=i
  ·rw[if_pos h,if_pos (by subst h;omega)]
   congr 1
   subst h;omega
  ·rw[if_neg h,if_neg,e2];intro hh;apply h;have h1:i<=j/sz:=(Nat.le_div_iff_mul_le hs0).2 hh.1;have h2:j/sz<i+1:=(aeo hs0).2 (by rw[adS];omega);omega
 ·rw[if_neg acB,List.getElem?_eq_none (by rw[dY hsz'];simpa using hj),List.getElem?_eq_none (by rw[dY au];omega)]
theorem YK {e v:AV} {f:Nat} (h:f+(cellsOf v).length<=(cellsOf e).length):cellsOf (jG e f v)=bV (cellsOf e) f (cellsOf v):=by
 unfold jG;split
 ·rename_i h1;obtain⟨rfl,h1⟩:=h1;unfold bV;rw[adr,h1,adL];simp
 rfl
theorem yW {t:TypeId} {n:Nat} (hn:bP P t=some n) {b o:Nat} {v:Value} (hv:v.cells.size=n) {cur:Array Value} {te:TypeId} {fz:Nat×Nat} (hw:w.heap[b]?=some (.cells cur te fz))
    (hz:∀j,j<cur.size->¬(fz.1<=j/\j<fz.2)) (hfit:o+n<=cur.size) (h1:∀u∈v.cells.toList,u.oneCell'=true) :
    (Instr.storeAt t (.pointer (some ⟨b,o,none⟩)) v).run P w=.ok () (w.setRow b (bV cur.toList o v.cells.toList).toArray):=by
 have hst:=yV P b o te fz v.cells.toList 0 cur w hw hz (by simp[hv];omega) h1;simp only[adA]at hst;simp[Instr.storeAt,Instr.sureAddr,storeVar,run_sizeOf hn,hv,hst,bV]
theorem kH (h:af E ρ st a w) {t:TypeId} {n:Nat} (hn:bP P t=some n) {vp vv:Value} {x v:AV} (hx:RV (XX E.X0 ρ st.h) w ρ vp x) (hv:RV (XX E.X0 ρ st.h) w ρ vv v) (hk:effSt st n x v K) :
    ∃w' ρ' st',(Instr.storeAt t vp vv).run P w=.ok () w'/\af E ρ' st' a w'/\K .undef st':=by
 unfold effSt at hk;split at hk
 ·rename_i id i f;obtain⟨av,st',h1,h2,h3,h4,h5,h6⟩:=DI h hv hk;obtain⟨k1,k0,k2⟩:=h6;split at k2
  ·rename_i sz es hid;obtain⟨k3,k4⟩:=k2
   cases hx with
   | ptr _ _ _ _ L b hL hb hi hf=>
    obtain⟨hLs,hcnt,hcap,au,hcells,_⟩:=jg h1 hid hL;obtain⟨cur,te,fz,g1,g2,g3,g4,g5⟩:=hcells b hb;obtain⟨c1,c2,c3⟩:=h3.cells h5;have hi':i<es.length:=acB;have hee:=au _ (yn hi');have hbig:i*sz+sz<=L.cap*sz:=by rw[<-adS];exact ac4 _ acB
    have hse:=YK (e:=nth es i) (v:=av) (f:=f) acB;have hsel:(cellsOf (jG (nth es i) f av)).length=sz:=by rw[hse,nv acB,hee]
    refine⟨_,ρ,_,yW (P:=P) hn (by rw[c1];exact k1) g1 g2 (by rw[hLs];omega) c2,?_,k4⟩;refine h1.modify id L _ _ hid hL ⟨rfl,rfl,rfl,by simp,λk hk hne=>setRow_other w b k _ (λe=>by subst e;exact hne _ L hid hL hb)⟩ ?_;have hfe:=dY au
    have hsz':∀e∈es.set i (jG (nth es i) f av),(cellsOf e).length=sz:=by
     intro e he;rcases ad8 he with e1 | e1;exact au e e1
     ·rw[e1];exact hsel
    refine⟨hLs,by simpa using hcnt,hcap,hsz',?_⟩;rw[hb];have hsl:=nv (l:=cur.toList) (k:=L.o+i*L.sz+f) (s:=vv.cells.toList) (by simp[c1];rw[hLs];omega);refine⟨_,te,fz,setRow_heap w b cur _ te fz g1,?_,?_,?_,?_⟩
    ·intro j hj;simp only[adm,hsl]at hj;exact g2 j (by simpa using hj)
    ·simp only[adm,hsl];simpa using g3
    ·rw[dY hsz'];simp;exact ac4 _ acB
    ·intro j u y e1 e2;rw[Ou au hi' hsel]at e2;simp only[List.getElem?_toArray]at e1;rw[rl (by simp[c1];rw[hLs];omega)]at e1;by_cases hj:i*sz<=j/\j<i*sz+sz
     ·rw[if_pos hj,hse,rl acB]at e2;have hcl:vv.cells.toList.length=(cellsOf av).length:=by simpa using c1
      by_cases hj1:j-i*sz<f
      ·rw[if_pos hj1]at e2;rw[if_pos (by rw[hLs];omega)]at e1;have:=iQ (es:=es) i (j-i*sz) au hi' acB;rw[show i*sz+(j-i*sz)=j by omega]at this;exact g5 j u y (by rw[<-e1,Array.getElem?_toList]) (by rw[this];exact e2)
      ·rw[if_neg hj1]at e2;by_cases hj2:j-i*sz<f+(cellsOf av).length
       ·rw[if_pos hj2]at e2;rw[if_neg (by rw[hLs];omega),if_pos (by rw[hLs,hcl];omega)]at e1;have hr:=c3 (j-i*sz-f) u y (by rw[<-e1];congr 1;rw[hLs];omega) e2;exact hr.nD (Ej h4 y (acS e2)) aW
       ·rw[if_neg hj2]at e2;rw[if_neg (by rw[hLs];omega),if_neg (by rw[hLs,hcl];omega)]at e1;have:=iQ (es:=es) i (j-i*sz) au hi' acB;rw[show i*sz+(j-i*sz)=j by omega]at this;exact g5 j u y (by rw[<-e1,Array.getElem?_toList]) (by rw[this];exact e2)
     ·rw[if_neg hj]at e2;have hcl:vv.cells.toList.length=(cellsOf av).length:=by simpa using c1
      have e1':cur.toList[L.o+j]?=some u:=by
       rcases afp (L.o+j) (L.o+i*L.sz+f)with h7 | h7
       ·rw[if_pos h7]at e1;exact e1
       ·rw[if_neg acB,if_neg (by rw[hLs]at h7 |-;rw[hcl];omega)]at e1;exact e1
      exact g5 j u y (by rw[<-e1',Array.getElem?_toList]) e2
   | dk _ _ L b hL hb hm hz=>
    have hac:=jg h1 hid hL;omega
  exact k2.elim
 ·rename_i id f;obtain⟨k0,k1,k2⟩:=hk;split at k2
  ·rename_i cs hid;obtain⟨k3,k4⟩:=k2
   cases hx with
   | aa _ _ _ L b hL hb=>
    obtain⟨cur,te,fz,g1,g2,g3,g4,g5⟩:=vz h hid hL hb;obtain⟨c1,c2,c3⟩:=hv.cells k0;have hcl:vv.cells.toList.length=(cellsOf v).length:=by simpa using c1
    refine⟨_,ρ,_,yW (P:=P) hn (by rw[c1];exact k1) g1 g2 acB c2,?_,k4⟩;refine h.modify id L _ _ hid hL ⟨rfl,rfl,rfl,by simp,λk hk hne=>setRow_other w b k _ (λe=>by subst e;exact hne _ L hid hL hb)⟩ ?_;have hsl:=nv (l:=cur.toList) (k:=L.o+f) (s:=vv.cells.toList) (by simp[c1];omega);have hsl2:=nv (l:=cs) (k:=f) (s:=cellsOf v) acB;refine⟨b,hb,_,te,fz,setRow_heap w b cur _ te fz g1,?_,?_,by rw[hsl2];exact acG _,?_⟩
    ·intro j hj;simp only[adm,hsl]at hj;exact g2 j (by simpa using hj)
    ·simp only[adm,hsl,hsl2];simpa using g3
    ·intro j u y e1 e2;simp only[List.getElem?_toArray]at e1
     exact YF (R:=λu y=>RV (XX E.X0 ρ st.h) w ρ u y) (cur:=cur.toList) (vs:=vv.cells.toList) (cs:=cs) (as:=cellsOf v) (o:=L.o) (p:=f)
      (λj v a q1 q2=>g5 j v a (by rw[<-q1,Array.getElem?_toList]) q2) c3 hcl acB (by simpa using g3) j u y e1 e2
  exact k2.elim
 exact hk.elim
theorem acp {i:TypeInfo} (h:rS i=true):∃z,i.zero=some z/\z.cells.size=i.size:=by
 unfold rS at h;split at h
 ·rename_i z hz;exact⟨z,hz,by simpa using h⟩
 ·cases h
theorem ZV (h:af E ρ st a w) (d:Nat) {e:TypeId} {l:List UInt8} (hk:K (.sl d 0 l.length) (bL st d (.arr 1 (l.map ub)))) :
    ∃v' w' ρ' st' av,(Conv.stringToBytes e ⟨l.toArray⟩).run P w=.ok v' w'/\af E ρ' st' a w'/\RV (XX E.X0 ρ' st'.h) w' ρ' v' av/\K av st'/\az w w':=by
 let c:=grownCap w l.length 0 e
 have hc:l.length<=c:=grownCap_ge w l.length 0 e
 let cur:Array Value:=(l.map λb=>Value.int .u8 b.toNat).toArray++Array.replicate (c-l.length) (.int .u8 0)
 have hcur:cur.size=c:=by simp[cur];omega
 let w1:World:=w.drew.alloc (.cells cur e)
 let w2:World:=w1.freeze ⟨w.heap.size,c,none⟩ 1
 have hw1:w1.heap[w.heap.size]?=some (.cells cur e (0,0)):=heap_alloc_new w.drew _;have hlt:w.heap.size<w1.heap.size:=(Array.getElem?_eq_some_iff.1 hw1).1
 have hw2:w2.heap[w.heap.size]?=some (.cells cur e (c,c+1)):=by
  simp only[w2,World.freeze,Nat.one_ne_zero,if_false,Array.getElem?_modify];rw[if_pos trivial,hw1];rfl
 have hs2:az w w2:=by
  refine⟨?_,?_,?_,?_,?_⟩
  ·simp[w2,World.freeze,w1];rfl
  ·simp[w2,World.freeze,w1]
  ·simp[w2,World.freeze,w1];rfl
  ·simp[w2,World.freeze,w1]
  ·intro b hb;simp only[w2,World.freeze,Nat.one_ne_zero,if_false,Array.getElem?_modify];rw[if_neg acB];exact RowKit.Below.heap_alloc w.drew _ b hb
 have hfl:flat (l.map ub)=l.map ub:=CB (λe he=>by obtain⟨b,_,rfl⟩:=adu.1 he;rfl);refine⟨.slice (some ⟨w.heap.size,0,none⟩) l.length c,w2,_,_,.sl d 0 l.length,?_,ur h d 1 (l.map ub) cur e (c,c+1) w2 c hs2 hw2 (λj hj=>by simp only;omega) (λe he=>by obtain⟨b,_,rfl⟩:=adu.1 he;rfl) (by simpa using hc) acB (λj v x e1 e2=>?_),?_,hk,hs2⟩
 ·have hch:(choose (.appendCap (⟨l.toArray⟩:ByteArray).size 0 e)).run P w=.ok c w.drew:=by
   simp[Question.forced,c,grownCap,mC]
  have hsh:w1.shape? w.heap.size=some (e,c):=by simp[World.shape?,hw1,hcur]
  unfold Conv.stringToBytes;simp only[Sem.run_bind,hch,Result.andThen_ok]
  have hcc:((⟨l.toArray⟩:ByteArray).data.map λb=>Value.int .u8 b.toNat)++Array.replicate (c-(⟨l.toArray⟩:ByteArray).size) (.int .u8 0)=cur:=by
   simp[cur,mC]
  rw[hcc];simp only[newRow,Sem.run_bind,run_newObj,Result.andThen_ok,Sem.run_pure,markStringish,run_shape];have:({w.drew with heap:=w.drew.heap.push (.cells cur e)}:World).shape? w.drew.heap.size=some (e,c):=hsh;rw[this];simp only[run_freeze,mC,Result.andThen_ok];rfl
 ·rw[hfl,List.getElem?_map]at e2;obtain⟨b,g1,rfl⟩:=acE.1 e2;have hj:j<l.length:=(List.getElem?_eq_some_iff.1 g1).1
  have:cur[j]?=some (.int .u8 b.toNat):=by
   simp only[cur];rw[Array.getElem?_append_left (by simpa using hj)];simp[g1]
  rw[this]at e1;obtain rfl:=Option.some.inj e1;exact .int _ _ _
 exact .sl _ d 0 l.length c ⟨some w.heap.size,0,1,(l.map ub).length,c⟩ _ (lu _ _ _) (by simp) hc (by simp) (.inr (by simp))
def isNew:AO->Bool
 | .alloc _ | .box _ _ | .mE _ _ | .nz _ | .ni _ _ _ _ _ | .nh _=>true
 | .app _ _ (.c .an) _=>true
 | _=>false
theorem Nn (h:af E ρ st a w) (d:Nat) {o:Oper} (hk:eff d st (trOp P o) K):zP P E a w (execOp a.eval o) (isNew (trOp P o)) K:=by
 unfold trOp at hk;split at hk;exact hk.elim;exact hk.elim;exact hk.elim
 ·(repeat' (first | exact hk.elim | (unfold trEq at hk;split at hk<;>exact hk.elim) | split at hk))
 exact hk.elim
 ·rename_i s t x ho;unfold trConv at hk;split at hk;exact hk.elim
  ·split at hk<;>exact hk.elim
  ·rename_i e hs ht;split at hk
   ·rename_i hu;simp only[eff]at hk;split at hk
    ·rename_i l hl;have hx:=a6 h x;rw[hl]at hx;obtain⟨v,w',ρ',st',av,h1,h2,h3,h4,hsm⟩:=ZV (P:=P) (e:=e) h d hk;refine⟨_,v,w',ρ',st',av,?_,.inl rfl,h2,h3,h4,λ_=>hsm⟩;simp[execOp,ho,convert,run_underlying hs,run_underlying ht,run_underlying (Dw hu),RV.lp hx,h1]
    exact hk.elim
   exact hk.elim
  all_goals exact hk.elim
 exact hk.elim;exact hk.elim
 ·(repeat' (first | exact hk.elim | split at hk))
 ·(repeat' (first | exact hk.elim | split at hk))
 ·split at hk<;>exact hk.elim
 ·rename_i t x v ho;split at hk
  ·rename_i n hn;obtain⟨w',ρ',st',h1,h2,h3⟩:=kH (P:=P) h hn (a6 h x) (a6 h v) hk;exact⟨.skip,undef,w',ρ',st',.undef,by simp[execOp,ho,h1],.inr ⟨rfl,rfl⟩,h2,.undef _ _,h3,λhq=>by unfold trOp at hq;simp[ho,hn,isNew]at hq⟩
  exact hk.elim
 ·split at hk;exact hk.elim
  ·split at hk<;>exact hk.elim
  exact hk.elim
 ·split at hk
  ·split at hk
   ·split at hk
    ·split at hk;exact hk.elim
     ·split at hk<;>exact hk.elim
    exact hk.elim
   exact hk.elim
  exact hk.elim
 ·split at hk
  ·split at hk
   ·split at hk
    ·split at hk<;>exact hk.elim
    exact hk.elim
   exact hk.elim
  exact hk.elim
 ·rename_i t ho;split at hk
  ·rename_i z hz;obtain⟨k1,k2⟩:=hk;obtain⟨v,w',ρ',st',av,h1,h2,h3,h4,hsm⟩:=H4 (P:=P) h d hz k1 k2;exact⟨_,v,w',ρ',st',av,by simp[execOp,ho,h1],.inl rfl,h2,h3,h4,λ_=>hsm⟩
  exact hk.elim
 ·rename_i t x ho;split at hk
  ·obtain⟨k1,k2,k3⟩:=hk;obtain⟨v,w',ρ',st',av,h1,h2,h3,h4,hsm⟩:=Kl (P:=P) (t:=t) h d (a6 h x) k1 k3;exact⟨_,v,w',ρ',st',av,by simp[execOp,ho,h1],.inl rfl,h2,h3,h4,λ_=>hsm⟩
  exact hk.elim
 ·rename_i t len parts ho;split at hk
  ·rename_i e ht;split at hk
   ·rename_i s z hs hz;split at hk
    ·rename_i hc;simp only[acN,decide_eq_true_eq,beq_iff_eq,FW]at hc;obtain⟨⟨c1,c2⟩,c3⟩:=hc;obtain⟨v,w',ρ',st',av,h1,h2,h3,h4,hsm⟩:=Ko (P:=P) (t:=t) h d ht hs hz c2 c1 c3 hk;refine⟨_,v,w',ρ',st',av,?_,.inl rfl,h2,h3,h4,λ_=>hsm⟩
     have hm:(parts.map fun(q:Nat×Operand)=>(q.1,a.eval q.2))=(parts.toList.map λq=>(q.1,a.eval q.2)).toArray:=by
      apply Array.ext';simp
     simp only[execOp,ho,Sem.run_bind];rw[show(parts.map fun(i,x)=>(i,a.eval x))=(parts.map fun(q:Nat×Operand)=>(q.1,a.eval q.2))from rfl,hm,h1];simp
    exact hk.elim
   exact hk.elim
  exact hk.elim
 ·rename_i c ho;obtain⟨callee,args,argTypes⟩:=c;obtain⟨args⟩:=args;obtain⟨argTypes⟩:=argTypes;unfold trCall at hk;simp only at hk;split at hk
  ·split at hk<;>exact hk.elim
  exact hk.elim;exact hk.elim;exact hk.elim;exact hk.elim;exact hk.elim
  ·rename_i x y t u r
   have app:∀{e:TypeId},P.underlying t=some (.slice e)->(P.underlying u=some .string\/∃e',P.underlying u=some (.slice e'))->∀{i:TypeInfo},P.info? e=some i->rS i=true ->
       effApp d st i.size i.bytes (ev st (trE x)) (ev st (trE y)) K->zP P E a w (execOp a.eval o) (isNew (trOp P o)) K:=by
    intro e ht hu i hi hzk hk;obtain⟨z,hz,hzs⟩:=acp hzk;obtain⟨v,w',ρ',st',av,h1,h2,h3,h4,h5⟩:=IG (P:=P) (ty:=o.type) h d ht hu hi hz hzs (a6 h x) (a6 h y) hk
    refine⟨_,v,w',ρ',st',av,?_,.inl rfl,h2,h3,h4,λhq=>by
     unfold trOp at hq;refine h5 ?_
     have hq:isNew (.app i.size i.bytes (trE x) (trE y))=true:=by
      rcases hu with hu | ⟨e',hu⟩<;>simpa[ho,trCall,ht,hu,hi,hzk]using hq
     unfold isNew at hq;split at hq
     all_goals first | (cases hq;done) | (rename_i e;injection e;done) | (rename_i e;injection e with _ _ e _;rw[e];rfl)⟩
    rw[callBuiltin_run ho rfl]
    have:(Builtin.append_ (t::u::r).toArray o.type #[a.eval x,a.eval y]).run P w=(Builtin.append_ #[t,u] o.type #[a.eval x,a.eval y]).run P w:=by
     simp[Builtin.append_]
    simp[builtin,this,h1]
   split at hk
   ·rename_i e e' ht hu;split at hk
    ·rename_i i hi;split at hk
     ·rename_i hz;exact app ht (.inr ⟨_,hu⟩) hi hz hk
     exact hk.elim
    exact hk.elim
   ·rename_i e ht hu;split at hk
    ·rename_i i hi;split at hk
     ·rename_i hz;exact app ht (.inl hu) hi hz hk
     exact hk.elim
    exact hk.elim
   exact hk.elim
  all_goals (repeat' (first | exact hk.elim | split at hk))
 ·(repeat' (first | exact hk.elim | split at hk))
 ·split at hk<;>exact hk.elim
 all_goals first | exact hk.elim | (exfalso;(repeat' (first | exact hk.elim | split at hk));done) | (exfalso;rename_i f first cap ho;by_cases hb:first.isEmpty=true<;>simp[hb,eff]at hk;done) | skip
 rotate_left
 ·rename_i t ho;split at hk
  ·split at hk
   ·obtain⟨v,w',ρ',st',av,h1,h2,h3,h4,hsm⟩:=Uz (P:=P) (t:=t) h d hk;exact⟨_,v,w',ρ',st',av,by simp[execOp,ho,h1],.inl rfl,h2,h3,h4,λ_=>hsm⟩
   exact hk.elim
  exact hk.elim
 ·rename_i t x k v ho;split at hk
  ·rename_i kt et hu;split at hk
   ·rename_i kd hkd;obtain⟨w',st',h1,h2,h3⟩:=D8 (P:=P) h hu hkd (a6 h x) (a6 h k) (a6 h v) hk;exact⟨.skip,undef,w',ρ,st',.undef,by simp[execOp,ho,h1],.inr ⟨rfl,rfl⟩,h2,.undef _ _,h3,λhq=>by unfold trOp at hq;simp[ho,hu,hkd,isNew]at hq⟩
   exact hk.elim
  exact hk.elim
 ·rename_i t x k v ho;split at hk
  ·rename_i kt et hu;split at hk
   ·rename_i kd hkd;obtain⟨w',st',h1,h2,h3⟩:=D8 (P:=P) h hu hkd (a6 h x) (a6 h k) (a6 h v) hk;exact⟨.skip,undef,w',ρ,st',.undef,by simp[execOp,ho,h1],.inr ⟨rfl,rfl⟩,h2,.undef _ _,h3,λhq=>by unfold trOp at hq;simp[ho,hu,hkd,isNew]at hq⟩
   exact hk.elim
  exact hk.elim
 rename_i t l c ho;split at hk
 ·rename_i e ht;split at hk
  ·rename_i i z hi hz;split at hk
   ·rename_i hzl;simp only[eff]at hk;split at hk
    ·rename_i n m hl hc;obtain⟨⟨k1,rfl,k0,k3,k4,k5⟩,k6⟩:=hk;obtain⟨n,rfl⟩:=adg k1;have hxl:=a6 h l;have hxc:=a6 h c;rw[hl]at hxl;rw[hc]at hxc
     have el:a.eval l=.int .i64 (n:Int):=by
      generalize a.eval l=v at hxl;cases hxl;rfl
     have ec:a.eval c=.int .i64 (n:Int):=by
      generalize a.eval c=v at hxc;cases hxc;rfl
     obtain⟨v,w',ρ',st',av,h1,h2,h3,h4,hsm⟩:=UB (P:=P) (n:=n) h d ht hi hz k5 k3 k4 acB (by simpa using k6);exact⟨_,v,w',ρ',st',av,by simp[execOp,ho,el,ec,h1],.inl rfl,h2,h3,h4,λ_=>hsm⟩
    exact hk.elim
   exact hk.elim
  exact hk.elim
 exact hk.elim
end
end Go.Proofs.YtgghhaahnpbnmaaGreatDoor.Eng
