/- The proof, part 21 of 24. -/
import Derived.Test.YtjoefngnjoofeaaDoorPackOneJ
import Derived.Test.YtjoefngnjoofeaaDoorPackOneR
import Derived.Test.YtjoefngnjoofeaaDoorProg
import Derived.KernelRfl
import Derived.Tactics
set_option linter.all false
namespace Go.Proofs.YtjoefngnjoofeaaDoor.Pk
open Eng Eng.Kz
set_option maxRecDepth 100000
def wrongP (e : Nat) : Value := .iface 61 (.int .i64 (e : Nat))
theorem two_of {vs : Array Value} (h : vs.size = 2) : ∃ v0 v1, vs = #[v0, v1] := by
 obtain ⟨l⟩ := vs
 match l, h with
 | [a, b], _ => exact ⟨a, b, rfl⟩
theorem pguard_idle : IdleD Tryd.prog 23 2 := by
 intro vs w hvs
 obtain ⟨v0, v1, rfl⟩ := two_of hvs
 refine callsDIn_of_wpSIn Tryd.func23 rfl trivial fun c₀ cs hu => ?_
 apply wpSIn_seq
 apply wpSIn_region
 simp [wpOpsSIn, go_sem, recoverD, hu, Tryd.ntmps23, Exit.thenS]
 refine wpSIn_of_wpIn rfl ?_
 refine wpIn_seq ?_
 refine wpIn_region ?_
 simp [wpOpsIn, Oper.wpIn, Oper.uponIn, Oper.semAt_none, go_sem, Region.wanted, Exit.then]
 refine wpIn_cond_false (by simp [Act.eval, Array.replicate]) ?_
 refine wpIn_skip ?_
 simp [bodyPostS, results, Tryd.results23]
 exact hu.symm ▸ rfl
def zeroC : List AV := [.int .i64 0, .int .i64 0, .int .i64 0, .str [], .int .i64 0, .str [], .int .u32 0]
def zeroV : Value := .agg #[.int .i64 0, .int .i64 0, .int .i64 0, .string ⟨#[]⟩, .int .i64 0, .string ⟨#[]⟩, .int .u32 0]
theorem zeroRV (X : Nat → Prop) (w : World) (ρ : Eng.Loc) : RV X w ρ zeroV (.agg zeroC) := by
 refine .agg _ _ _ rfl (fun j v a h1 h2 => ?_)
 have hj : j < 7 := (List.getElem?_eq_some_iff.1 h2).1
 obtain rfl | rfl | rfl | rfl | rfl | rfl | rfl : j = 0 ∨ j = 1 ∨ j = 2 ∨ j = 3 ∨ j = 4 ∨ j = 5 ∨ j = 6 := by omega
 all_goals
  simp [zeroC] at h1 h2
  subst h1 h2
  first | exact .int _ _ _ | exact .str _ []
theorem run_ta (x : Value) (t0 : TypeId) (w : World) : (Instr.typeAssert (.iface 61 x) t0 61 true).run Tryd.prog w = .ok (.tuple #[x, .bool true]) w := by
 have hu : (underlying 61).run Tryd.prog w = .ok (.int .i64) w := by rfl
 unfold Instr.typeAssert
 simp [go_sem, hu]
theorem ent_sz : szOf Tryd.prog 34 = some 7 := by kernel_rfl
theorem errno_sz : szOf Tryd.prog 25 = some 1 := by kernel_rfl
theorem hzb (w : World) : (Instr.build 34 #[]).run Tryd.prog w = .ok zeroV w := by kernel_rfl
theorem rstep {P : Program} {o : Oper} {a : Act} {w w' : World} {v : Value} {next : Act → World → Prop} {Q : Exit → Act → World → Prop} (h : (execOp a.eval o).run P w = .ok (.value v) w') (hn : next (a.put o.dst v) w') :
    Oper.uponIn Fence.wide 0 P o a next Q ((o.semAt Fence.wide.round a.eval).run P w) := by
 rw [show Fence.wide.round = none from rfl, Oper.semAt_none, h]
 exact hn
theorem rstepS {P : Program} {o : Oper} {a : Act} {w w' : World} {next : Act → World → Prop} {Q : Exit → Act → World → Prop} (h : (execOp a.eval o).run P w = .ok .skip w') (hn : next (a.put o.dst undef) w') :
    Oper.uponIn Fence.wide 0 P o a next Q ((o.semAt Fence.wide.round a.eval).run P w) := by
 rw [show Fence.wide.round = none from rfl, Oper.semAt_none, h]
 exact hn
theorem pguard_rec (e : Nat) (i0 i1 : Nat) (cs0 : List AV) (x1 : AV) (hi : i0 ≠ i1) (hc0 : cs0.length = 7) :
    SpecD Tryd.prog 23 [(i0, .var cs0), (i1, .var [x1])] [.vptr i0 0, .vptr i1 0] (wrongP e) [(i1, .var [.int .i64 (e : Nat)]), (i0, .var zeroC)] := by
 intro X0 ρ w vs hh hA hX hvs hrv
 obtain ⟨v0, v1, rfl⟩ := two_of hvs
 have hnt : Tryd.f23.ntmps = 12 := Tryd.ntmps23
 generalize hh0 : ([(i0, .var cs0), (i1, .var [x1])] : HP) = h at *
 let E0 : Env := ⟨w, OwnB ρ h, X0, Tryd.f23.ntmps, 0, fun k => #[v0, v1].getD (k - 2000000) undef, none, w.heap.size, Nat.le_refl _, []⟩
 have g0 : RelAt E0 ρ ⟨startS [.vptr i0 0, .vptr i1 0], h⟩ { tmps := #[v0, v1] ++ Array.replicate (Tryd.f23.ntmps - #[v0, v1].size) undef, defers := [] } w := start_rel (B := 0) (by rw [hnt]; decide) (by rw [hnt]; exact (by decide : 2 ≤ 12)) hh hA hX hvs hrv [] rfl
 have hE : ∀ d, d < 12 → d < E0.N := fun d hd => by show d < Tryd.f23.ntmps; rw [hnt]; exact hd
 have g1 := (((((g0.put 5 (hE 5 (by decide)) (v := wrongP e) (av := .undef) (.undef _ _)).put 6 (hE 6 (by decide)) (v := .tuple #[.int .i64 (e : Nat), .bool true]) (av := .undef) (.undef _ _)).put 4 (hE 4 (by decide)) (v := .tuple #[.int .i64 (e : Nat), .bool true]) (av := .undef) (.undef _ _)).put 7 (hE 7 (by decide)) (v := .int .i64 (e : Nat)) (av := .int .i64 (e : Nat)) (.int _ _ _)).put 8 (hE 8 (by decide)) (v := .bool true) (av := .bool true) (.bool _ _)).put 2 (hE 2 (by decide)) (v := .int .i64 (e : Nat)) (av := .int .i64 (e : Nat)) (.int _ _ _)
 have g2 := g1.put 3 (hE 3 (by decide)) (v := .bool true) (av := .bool true) (.bool _ _)
 have g3 := g2.put 9 (hE 9 (by decide)) (v := .bool true) (av := .bool true) (.bool _ _)
 have g4 := (g3.put 10 (hE 10 (by decide)) (v := zeroV) (av := .agg zeroC) (zeroRV _ _ _)).put 11 (hE 11 (by decide)) (v := .int .i64 (e : Nat)) (av := .int .i64 (e : Nat)) (.int _ _ _)
 have b3 := evalRV g2 (.tmp 3)
 have b9 := evalRV g3 (.tmp 9)
 have b2 := evalRV g3 (.tmp 2)
 clear g0 g1 g2 g3
 generalize hac : (((((((((({ tmps := #[v0, v1] ++ Array.replicate (Tryd.f23.ntmps - #[v0, v1].size) undef, defers := [] } : Act).put (some 5) (wrongP e)).put (some 6) (.tuple #[.int .i64 (e : Nat), .bool true])).put (some 4) (.tuple #[.int .i64 (e : Nat), .bool true])).put (some 7) (.int .i64 (e : Nat))).put (some 8) (.bool true)).put (some 2) (.int .i64 (e : Nat))).put (some 3) (.bool true)).put (some 9) (.bool true)).put (some 10) zeroV).put (some 11) (.int .i64 (e : Nat)) = ac at g4
 have had : ac.defers = [] := by rw [← hac]; rfl
 have fin : ∃ w1 w2, (Instr.storeAt 34 (ac.eval (.tmp 0)) (ac.eval (.tmp 10))).run Tryd.prog w = .ok () w1 ∧ (Instr.storeAt 25 (ac.eval (.tmp 1)) (ac.eval (.tmp 11))).run Tryd.prog w1 = .ok () w2 ∧
     ∃ ρ' st', RelAt E0 ρ' st' ac w2 ∧ st'.h = [(i1, .var [.int .i64 (e : Nat)]), (i0, .var zeroC)] ∧ sget st'.s 2000000 = some (.vptr i0 0) ∧ sget st'.s 2000001 = some (.vptr i1 0) := by
  subst hh0
  have g4 := g4.weaken (st' := ⟨[(0, .vptr i0 0), (1, .vptr i1 0), (10, .agg zeroC), (11, .int .i64 (e : Nat)), (2000000, .vptr i0 0), (2000001, .vptr i1 0)], [(i0, .var cs0), (i1, .var [x1])]⟩) (by exact ⟨rfl, rfl, rfl, rfl, rfl, rfl, trivial⟩) (by simp [leH, hget, hi, hi.symm])
  have hx0 := evalRV g4 (.tmp 0)
  have hx10 := evalRV g4 (.tmp 10)
  obtain ⟨w1, ρ1, st1, r1, g5, K⟩ := effSt_sound g4 ent_sz hx0 hx10 (K := fun _ st1 => st1 = ⟨[(0, .vptr i0 0), (1, .vptr i1 0), (10, .agg zeroC), (11, .int .i64 (e : Nat)), (2000000, .vptr i0 0), (2000001, .vptr i1 0)], [(i0, .var zeroC), (i1, .var [x1])]⟩) (by
   simp [effSt, hget, hset, hdel, hc0, hi, hi.symm, seg, zeroC, cellsOK, cellsOf, isCell, ev, trE, sget])
  subst K
  have hx1 := evalRV g5 (.tmp 1)
  have hx11 := evalRV g5 (.tmp 11)
  obtain ⟨w2, ρ2, st2, r2, g6, K⟩ := effSt_sound g5 errno_sz hx1 hx11 (K := fun _ st1 => st1 = ⟨[(0, .vptr i0 0), (1, .vptr i1 0), (10, .agg zeroC), (11, .int .i64 (e : Nat)), (2000000, .vptr i0 0), (2000001, .vptr i1 0)], [(i1, .var [.int .i64 (e : Nat)]), (i0, .var zeroC)]⟩) (by
   simp [effSt, hget, hset, hdel, hi, hi.symm, seg, cellsOK, cellsOf, isCell, ev, trE, sget])
  subst K
  exact ⟨w1, w2, r1, r2, ρ2, _, g6, rfl, rfl, rfl⟩
 obtain ⟨w1, w2, r1, r2, ρ2, st2, g6, e1, e2, e3⟩ := fin
 clear g4
 refine callsDIn_of_wpSIn Tryd.func23 rfl trivial fun c₀ cs hu => ?_
 apply wpSIn_seq
 apply wpSIn_region
 simp [wpOpsSIn, go_sem, recoverD, hu, pan, wrongP, Tryd.ntmps23, Exit.thenS, run_ta]
 refine wpSIn_of_wpIn rfl ?_
 refine wpIn_seq ?_
 refine wpIn_region ?_
 simp [wpOpsIn, Oper.wpIn, Oper.uponIn, Oper.semAt_none, go_sem, Region.wanted, Exit.then]
 refine wpIn_cond_true (by simp [Act.eval, Array.replicate]) ?_
 refine Eq.mpr (congrArg (fun a => Code.wpIn Fence.wide 0 Tryd.prog _ _ a w) (a₂ := (((((((({ tmps := #[v0, v1] ++ Array.replicate (Tryd.f23.ntmps - #[v0, v1].size) undef, defers := [] } : Act).put (some 5) (wrongP e)).put (some 6) (.tuple #[.int .i64 (e : Nat), .bool true])).put (some 4) (.tuple #[.int .i64 (e : Nat), .bool true])).put (some 7) (.int .i64 (e : Nat))).put (some 8) (.bool true)).put (some 2) (.int .i64 (e : Nat))).put (some 3) (.bool true)).put (some 9) (.bool true)) ?_) ?_
 ·simp [Act.put, hnt, wrongP]
 refine wpIn_region_list (wpListIn_plain rfl (fun next hnext => ⟨fun _ _ => trivial, ?_⟩))
 refine rstep (v := zeroV) (w' := w) (by simp [execOp, hzb]) (hnext _ _ ?_)
 refine wpListIn_plain rfl (fun next hnext => ⟨fun _ _ => trivial, ?_⟩)
 refine rstep (v := .int .i64 (e : Nat)) (w' := w) (by simp [execOp, Act.eval, Act.put, hnt]) (hnext _ _ ?_)
 refine wpListIn_plain rfl (fun next hnext => ⟨fun _ _ => trivial, ?_⟩)
 rw [hac]
 refine rstepS (w' := w1) (by simp [execOp, r1]) (hnext _ _ ?_)
 refine wpListIn_plain rfl (fun next hnext => ⟨fun _ _ => trivial, ?_⟩)
 refine rstepS (w' := w2) (by simp only [Act.put]; simp [execOp, r2]) (hnext _ _ ?_)
 refine ⟨had, _, rfl, .tuple #[], by simp [results, Tryd.results23], ⟨_, rfl⟩, rfl, ρ2, ?_, ?_, g6.frm.os, g6.frm.tape, g6.frm.output, g6.frm.size, g6.frm.block, ?_⟩
 ·have := g6.heap
  rw [e1] at this
  exact this
 ·intro j v x h1 h2
  have hj : j < 2 := (List.getElem?_eq_some_iff.1 h2).1
  have hgv : ∀ k, 2000000 ≤ k → sval E0 ac k = E0.gv k := fun k hk => by
   unfold sval
   rw [if_neg (by show ¬ k < Tryd.f23.ntmps; rw [hnt]; omega)]
  obtain rfl | rfl : j = 0 ∨ j = 1 := by omega
  ·obtain rfl : v0 = v := by simpa using h1
   obtain rfl : AV.vptr i0 0 = x := by simpa using h2
   have hr := (g6.slots _ _ e2).2
   rw [hgv _ (Nat.le_refl _), e1] at hr
   exact hr
  ·obtain rfl : v1 = v := by simpa using h1
   obtain rfl : AV.vptr i1 0 = x := by simpa using h2
   have hr := (g6.slots _ _ e3).2
   rw [hgv _ (Nat.le_succ _), e1] at hr
   exact hr
 ·rintro b ⟨id, W, L, h1, h2, h3⟩
  rw [← e1] at h1
  exact g6.base id W L b h1 h2 h3
end Go.Proofs.YtjoefngnjoofeaaDoor.Pk
namespace Go.Proofs.YtjoefngnjoofeaaDoor.Pk
open Eng Sh
set_option maxRecDepth 10000
def rdP (b : Bs) (p : Nat) : HP := [(143032, .var [.str b, .int .i64 p])]
theorem diedP {t : TypeId} {n : Int} {e : Nat} {st : St} (ht : t = 61 := by rfl) (hn : n = (e : Nat) := by rfl) : (KQ.dies (wrongP e)).ap (.panic (pan (.iface t (.int .i64 n)))) st := by
 subst ht hn; exact of_eq_true kqDies_p
theorem pbyte_ok (b : Bs) (p : Nat) (hb : b.length ≤ 1000000) (h : p < b.length) : Eng.Spec Tryd.prog 42 (rdP b p) [.vptr 143032 0] (fun h' v ar => h' = rdP b (p + 1) ∧ v = .int .i64 ((b.getD p 0).toNat : Nat) ∧ ar = [.vptr 143032 0]) := by
 refine Cod.pbyte_spec (fun E R hN hR => ?_)
 have hu := (b.getD p 0).toNat_lt
 have e1 : ((p : Int) + 1 - 1).toNat = p := by omega
 simp (disch := omega) only [go_sem, simprocAttr, rdP, e1]
 exact hR.le (by simp (disch := omega) only [go_sem, simprocAttr, rdP]) ⟨rfl, rfl, rfl⟩
theorem pbyte_die (b : Bs) (p : Nat) (hp : p ≤ 2000000) (hb : b.length ≤ 1000000) (h : b.length ≤ p) : Eng.SpecDies Tryd.prog 42 (rdP b p) [.vptr 143032 0] (wrongP 6) := by
 refine Cod.pbyte_dies (fun E hN => ?_)
 simp (disch := omega) only [go_sem, simprocAttr, rdP]
 exact diedP
def headR (b : Bs) : Nat → Nat → Nat → Nat → Nat × Nat × Nat
 | 0, p, _, _ => if b.length ≤ p then (0, 0, 6) else (0, 0, 3)
 | m + 1, p, size, sh => if b.length ≤ p then (0, 0, 6) else if (b.getD p 0).toNat < 128 then (size + (b.getD p 0).toNat % 128 * 2 ^ sh, p + 1, 0) else headR b m (p + 1) (size + (b.getD p 0).toNat % 128 * 2 ^ sh) (sh + 7)
def headP (b : Bs) (p : Nat) : Nat × Nat × Nat × Nat :=
 if b.length ≤ p then (0, 0, 0, 6) else if (b.getD p 0).toNat < 128 then ((b.getD p 0).toNat / 16 % 8, (b.getD p 0).toNat % 16, p + 1, 0) else
 if (headR b 4 (p + 1) ((b.getD p 0).toNat % 16) 4).2.2 ≠ 0 then (0, 0, 0, (headR b 4 (p + 1) ((b.getD p 0).toNat % 16) 4).2.2) else
 ((b.getD p 0).toNat / 16 % 8, (headR b 4 (p + 1) ((b.getD p 0).toNat % 16) 4).1, (headR b 4 (p + 1) ((b.getD p 0).toNat % 16) 4).2.1, 0)
theorem and_i64 {x n : Nat} (hx : x < 1000000) (hn : n ≤ 10) : bits .and .i64 (x : Int) ((2 ^ n - 1 : Nat) : Int) = ((x % 2 ^ n : Nat) : Int) := by
 have hp : 2 ^ n ≤ 2 ^ 10 := Nat.pow_le_pow_right (by decide) hn
 have hp1 : 0 < 2 ^ n := Nat.pow_pos (by decide)
 have := Nat.mod_lt x hp1
 show IntKind.i64.wrap ((BitVec.ofInt 64 (x : Int) &&& BitVec.ofInt 64 ((2 ^ n - 1 : Nat) : Int)).toNat : Int) = _
 rw [BitVec.ofInt_natCast, BitVec.ofInt_natCast, BitVec.toNat_and, BitVec.toNat_ofNat, BitVec.toNat_ofNat, Nat.mod_eq_of_lt (by omega), Nat.mod_eq_of_lt (by omega), Nat.and_two_pow_sub_one_eq_mod]
 exact wrap_id (by omega)
theorem or_sh {x k c : Nat} (hx : x < 2 ^ k) (hk : k ≤ 32) (hc : c < 128) : bits .or .i64 (x : Int) (IntKind.i64.wrap ((c : Int) * 2 ^ min k 64)) = ((x + c * 2 ^ k : Nat) : Int) := by
 have hp : 2 ^ k ≤ 2 ^ 32 := Nat.pow_le_pow_right (by decide) hk
 have h2 : c * 2 ^ k ≤ 127 * 2 ^ 32 := Nat.mul_le_mul (by omega) hp
 have e : IntKind.i64.wrap ((c : Int) * 2 ^ min k 64) = ((c * 2 ^ k : Nat) : Int) := by
  rw [Nat.min_eq_left (by omega), show ((c : Int) * 2 ^ k) = ((c * 2 ^ k : Nat) : Int) by push_cast; rfl]
  exact wrap_id (by omega)
 rw [e]
 show IntKind.i64.wrap ((BitVec.ofInt 64 (x : Int) ||| BitVec.ofInt 64 ((c * 2 ^ k : Nat) : Int)).toNat : Int) = _
 rw [BitVec.ofInt_natCast, BitVec.ofInt_natCast, BitVec.toNat_or, BitVec.toNat_ofNat, BitVec.toNat_ofNat, Nat.mod_eq_of_lt (by omega), Nat.mod_eq_of_lt (by omega), Nat.or_comm, ← Nat.shiftLeft_eq, ← Nat.shiftLeft_add_eq_or_of_lt hx, Nat.shiftLeft_eq, Nat.add_comm]
 exact wrap_id (by omega)
set_option maxHeartbeats 1000000 in
theorem phead_gen (b : Bs) (p : Nat) (hb : b.length ≤ 1000000) (hp : p ≤ 1000000) {E : Env} (hN : E.N ≤ 1000000) (Q : KQ)
    (hret : (headP b p).2.2.2 = 0 → Q.ap .ret ⟨[(2, .int .i64 ((headP b p).1 : Nat)), (3, .int .i64 ((headP b p).2.1 : Nat)), (2000000, .vptr 143032 0)], rdP b (headP b p).2.2.1⟩)
    (hdie : ∀ st, (headP b p).2.2.2 ≠ 0 → Q.ap (.panic (pan (wrongP (headP b p).2.2.2))) st) :
    vcW Tryd.prog E Cod.phead Q ⟨[(0, .vptr 143032 0), (2000000, .vptr 143032 0)], rdP b p⟩ := by
 generalize hH : headP b p = H at *
 unfold headP at hH
 by_cases h0 : b.length ≤ p
 ·rw [if_pos h0] at hH
  subst hH
  simp (disch := omega) only [go_sem, simprocAttr]
  refine dc_die (rdP b p) (pbyte_die b p (by omega) hb h0) (by simp (disch := omega) only [go_sem, simprocAttr, rdP]) ?_
  exact hdie _ (by decide)
 ·rw [if_neg h0] at hH
  have hu := (b.getD p 0).toNat_lt
  have hby := pbyte_ok b p hb (by omega)
  generalize (b.getD p 0).toNat = c at *
  have hsh : ((c : Nat) : Int).fdiv (2 ^ min 4 64) = ((c / 16 : Nat) : Int) := by
   rw [Nat.min_eq_left (by decide), Int.fdiv_eq_ediv_of_nonneg _ (by decide)]; omega
  have hk7 : bits .and .i64 ((c / 16 : Nat) : Int) 7 = ((c / 16 % 8 : Nat) : Int) := and_i64 (n := 3) (by omega) (by decide)
  have hk15 : bits .and .i64 (c : Int) 15 = ((c % 16 : Nat) : Int) := and_i64 (n := 4) (by omega) (by decide)
  simp (disch := omega) only [go_sem, simprocAttr]
  refine dc_ret ?_
  refine call_win (rdP b p) hby (by simp (disch := omega) only [go_sem, simprocAttr, rdP]) nofun ?_
  rintro h' v ar ⟨rfl, rfl, rfl⟩
  refine ⟨by simp (disch := omega) only [go_sem, simprocAttr, rdP], rfl, ?_⟩
  simp (disch := omega) only [go_sem, simprocAttr, hsh, hk7, hk15]
  refine vcW_loop hN (fun q : Nat × Nat × Nat × Nat => ⟨[(0, .vptr 143032 0), (2, .int .i64 0), (3, .int .i64 0), (4, .int .i64 q.2.2.2), (5, .int .i64 (c / 16 % 8 : Nat)), (6, .int .i64 q.2.2.1), (7, .int .i64 (4 + 7 * (4 - q.1) : Nat)), (2000000, .vptr 143032 0)], rdP b q.2.1⟩)
   (fun q => q.1 ≤ 4 ∧ q.2.1 ≤ 1000000 ∧ q.2.2.1 < 2 ^ (4 + 7 * (4 - q.1)) ∧ q.2.2.2 < 256 ∧ (if q.2.2.2 < 128 then H = (c / 16 % 8, q.2.2.1, q.2.1, 0) else
    H = if (headR b q.1 q.2.1 q.2.2.1 (4 + 7 * (4 - q.1))).2.2 ≠ 0 then (0, 0, 0, (headR b q.1 q.2.1 q.2.2.1 (4 + 7 * (4 - q.1))).2.2) else (c / 16 % 8, (headR b q.1 q.2.1 q.2.2.1 (4 + 7 * (4 - q.1))).1, (headR b q.1 q.2.1 q.2.2.1 (4 + 7 * (4 - q.1))).2.1, 0)))
   (fun q => if q.2.2.2 < 128 then 0 else q.1 + 1) (4, p + 1, c % 16, c) (.le (by simp (disch := omega) only [go_sem, simprocAttr, rdP])) ⟨by simp, by simp only; omega, by simp only; omega, hu, by
    by_cases hc : c < 128
    ·rw [if_pos hc] at hH; simp only [if_pos hc]; exact hH.symm
    ·rw [if_neg hc] at hH; simp only [if_neg hc]; exact hH.symm⟩ ?_
  clear hH hby hsh hk15
  rintro ⟨m, p2, n, d⟩ R1 ⟨hm, hp2, hn, hd, hH⟩ hR1
  simp only at hm hp2 hn hd hH
  generalize hshe : 4 + 7 * (4 - m) = sh at *
  by_cases hc : d < 128
  ·rw [if_pos hc] at hH
   subst hH
   have hret := hret rfl
   simp only [rdP] at hret
   simp (disch := omega) only [go_sem, simprocAttr, rdP, hshe]
   exact hret
  ·rw [if_neg hc] at hH
   by_cases hend : b.length ≤ p2
   ·have hR0 : headR b m p2 n sh = (0, 0, 6) := by cases m with | zero => exact if_pos hend | succ m => exact if_pos hend
    rw [hR0, if_pos (by decide)] at hH
    subst hH
    simp (disch := omega) only [go_sem, simprocAttr, rdP, hshe]
    refine dc_die (rdP b p2) (pbyte_die b p2 (by omega) hb hend) (by simp (disch := omega) only [go_sem, simprocAttr, rdP]) ?_
    exact hdie _ (by decide)
   ·have hby := pbyte_ok b p2 hb (by omega)
    have hu := (b.getD p2 0).toNat_lt
    cases m with
    | zero =>
     have hR0 : headR b 0 p2 n sh = (0, 0, 3) := if_neg hend
     rw [hR0, if_pos (by decide)] at hH
     subst hH
     simp (disch := omega) only [go_sem, simprocAttr, rdP, hshe]
     refine dc_ret ?_
     refine call_win (rdP b p2) hby (by simp (disch := omega) only [go_sem, simprocAttr, rdP]) nofun ?_
     rintro h' v ar ⟨rfl, rfl, rfl⟩
     refine ⟨by simp (disch := omega) only [go_sem, simprocAttr, rdP], rfl, ?_⟩
     have hgt : (25 : Int) < (sh : Int) := by omega
     simp (disch := omega) only [go_sem, simprocAttr, hgt, hshe]
     exact hdie _ (by decide)
    | succ m =>
     have hR0 : headR b (m + 1) p2 n sh = if (b.getD p2 0).toNat < 128 then (n + (b.getD p2 0).toNat % 128 * 2 ^ sh, p2 + 1, 0) else headR b m (p2 + 1) (n + (b.getD p2 0).toNat % 128 * 2 ^ sh) (sh + 7) := if_neg hend
     rw [hR0] at hH
     generalize (b.getD p2 0).toNat = x at *
     have hk : bits .and .i64 (x : Int) 127 = ((x % 128 : Nat) : Int) := and_i64 (n := 7) (by omega) (by decide)
     have ho := or_sh (x := n) (k := sh) (c := x % 128) hn (by omega) (Nat.mod_lt _ (by decide))
     have hn2 : n + x % 128 * 2 ^ sh < 2 ^ (sh + 7) := by
      have h1 : x % 128 ≤ 127 := by omega
      have h2 : x % 128 * 2 ^ sh ≤ 127 * 2 ^ sh := Nat.mul_le_mul_right _ h1
      rw [Nat.pow_add]
      omega
     have hgt : ¬ (25 : Int) < (sh : Int) := by omega
     have hs7 : sh + 7 = 4 + 7 * (4 - m) := by omega
     have hsz : n + x % 128 * 2 ^ sh < 4294967296 := by
      have : 2 ^ (sh + 7) ≤ 2 ^ 32 := Nat.pow_le_pow_right (by decide) (by omega)
      omega
     simp (disch := omega) only [go_sem, simprocAttr, rdP, hshe]
     refine dc_ret ?_
     refine call_win (rdP b p2) hby (by simp (disch := omega) only [go_sem, simprocAttr, rdP]) nofun ?_
     rintro h' v ar ⟨rfl, rfl, rfl⟩
     refine ⟨by simp (disch := omega) only [go_sem, simprocAttr, rdP], rfl, ?_⟩
     simp (disch := omega) only [go_sem, simprocAttr, hgt, hshe, hk, ho]
     generalize hz : n + x % 128 * 2 ^ sh = z at *
     rw [hs7] at hH hn2
     refine hR1 (m, p2 + 1, z, x) _ ?_ ⟨by simp only; omega, by simp only; omega, hn2, hu, ?_⟩ (.le ?_)
     ·simp only [if_neg hc]; split <;> omega
     ·simp only
      by_cases hx : x < 128
      ·rw [if_pos hx] at hH ⊢
       rw [if_neg (by simp)] at hH
       exact hH
      ·rw [if_neg hx] at hH ⊢
       exact hH
     ·simp (disch := omega) only [go_sem, simprocAttr, rdP, ← hs7]
theorem phead_ok (b : Bs) (p : Nat) (hb : b.length ≤ 1000000) (hp : p ≤ 1000000) (he : (headP b p).2.2.2 = 0) : Eng.Spec Tryd.prog 24 (rdP b p) [.vptr 143032 0]
    (fun h' v ar => h' = rdP b (headP b p).2.2.1 ∧ v = .tup [.int .i64 ((headP b p).1 : Nat), .int .i64 ((headP b p).2.1 : Nat)] ∧ ar = [.vptr 143032 0]) := by
 refine Cod.phead_spec (fun E R hN hR => ?_)
 refine phead_gen b p hb hp hN _ (fun _ => ?_) (fun st h => absurd he h)
 simp (disch := omega) only [go_sem, simprocAttr, rdP]
 exact hR.le (by simp (disch := omega) only [go_sem, simprocAttr, rdP]) ⟨rfl, rfl, rfl⟩
theorem phead_die (b : Bs) (p : Nat) (hb : b.length ≤ 1000000) (hp : p ≤ 1000000) (he : (headP b p).2.2.2 ≠ 0) : Eng.SpecDies Tryd.prog 24 (rdP b p) [.vptr 143032 0] (wrongP (headP b p).2.2.2) := by
 refine Cod.phead_dies (fun E hN => ?_)
 exact phead_gen b p hb hp hN _ (fun h => absurd h he) (fun st _ => of_eq_true kqDies_p)
end Go.Proofs.YtjoefngnjoofeaaDoor.Pk
namespace Go.Proofs.YtjoefngnjoofeaaDoor.Pk
open Eng Sh
set_option maxRecDepth 10000
def backL (b : Bs) : Nat → Nat → Nat → Nat × Nat × Nat
 | 0, _, _ => (0, 0, 6)
 | k + 1, p, n => if b.length ≤ p then (0, 0, 6) else if (b.getD p 0).toNat < 128 then (n + (b.getD p 0).toNat % 128, p + 1, 0) else if 16777216 < n + (b.getD p 0).toNat % 128 then (0, 0, 3) else backL b k (p + 1) ((n + (b.getD p 0).toNat % 128 + 1) * 128)
theorem backL_succ (b : Bs) (k p n : Nat) : backL b (k + 1) p n = if b.length ≤ p then (0, 0, 6) else if (b.getD p 0).toNat < 128 then (n + (b.getD p 0).toNat % 128, p + 1, 0) else if 16777216 < n + (b.getD p 0).toNat % 128 then (0, 0, 3) else backL b k (p + 1) ((n + (b.getD p 0).toNat % 128 + 1) * 128) := rfl
def backP (b : Bs) (p : Nat) : Nat × Nat × Nat := backL b (b.length + 1 - p) p 0
theorem backL_end (b : Bs) {p : Nat} (h : b.length ≤ p) (k n : Nat) : backL b k p n = (0, 0, 6) := by
 cases k with
 | zero => rfl
 | succ k => rw [backL_succ, if_pos h]
theorem or_7 {x b : Nat} (hx : x < 281474976710656) (hb : b < 128) : bits .or .i64 (IntKind.i64.wrap ((x : Int) * 2 ^ min 7 64)) (b : Int) = ((128 * x + b : Nat) : Int) := by
 have h1 : ((x : Int) * 2 ^ min 7 64) = ((x * 128 : Nat) : Int) := by
  rw [show ((2 : Int) ^ min 7 64) = 128 by decide]; omega
 rw [h1, wrap_id (by omega)]
 show IntKind.i64.wrap ((BitVec.ofInt 64 ((x * 128 : Nat) : Int) ||| BitVec.ofInt 64 (b : Int)).toNat : Int) = _
 rw [BitVec.ofInt_natCast, BitVec.ofInt_natCast, BitVec.toNat_or, BitVec.toNat_ofNat, BitVec.toNat_ofNat, Nat.mod_eq_of_lt (by omega), Nat.mod_eq_of_lt (by omega)]
 have h2 : x * 128 ||| b = 128 * x + b := by
  have h3 := Nat.shiftLeft_add_eq_or_of_lt (b := b) (i := 7) (by omega) x
  rw [Nat.shiftLeft_eq, show (2 : Nat) ^ 7 = 128 by decide] at h3
  omega
 rw [h2]
 exact wrap_id (by omega)
set_option maxHeartbeats 1000000 in
theorem pback_gen (b : Bs) (p : Nat) (hb : b.length ≤ 1000000) (hp : p ≤ 1000000) {E : Env} (hN : E.N ≤ 1000000) (Q : KQ)
    (hret : (backP b p).2.2 = 0 → Q.ap .ret ⟨[(2, .int .i64 ((backP b p).1 : Nat)), (2000000, .vptr 143032 0)], rdP b (backP b p).2.1⟩)
    (hdie : ∀ st, (backP b p).2.2 ≠ 0 → Q.ap (.panic (pan (wrongP (backP b p).2.2))) st) :
    vcW Tryd.prog E Cod.pback Q ⟨[(0, .vptr 143032 0), (2000000, .vptr 143032 0)], rdP b p⟩ := by
 generalize hH : backP b p = H at *
 by_cases h0 : b.length ≤ p
 ·rw [backP, backL_end b h0] at hH
  subst hH
  simp (disch := omega) only [go_sem, simprocAttr]
  refine dc_die (rdP b p) (pbyte_die b p (by omega) hb h0) (by simp (disch := omega) only [go_sem, simprocAttr, rdP]) ?_
  exact hdie _ (by decide)
 ·rw [backP, show b.length + 1 - p = (b.length - p) + 1 by omega, backL_succ, if_neg h0] at hH
  have hu := (b.getD p 0).toNat_lt
  have hby := pbyte_ok b p hb (by omega)
  generalize (b.getD p 0).toNat = c at *
  have hk : bits .and .i64 (c : Int) 127 = ((c % 128 : Nat) : Int) := and_i64 (n := 7) (by omega) (by decide)
  simp (disch := omega) only [go_sem, simprocAttr]
  refine dc_ret ?_
  refine call_win (rdP b p) hby (by simp (disch := omega) only [go_sem, simprocAttr, rdP]) nofun ?_
  rintro h' v ar ⟨rfl, rfl, rfl⟩
  refine ⟨by simp (disch := omega) only [go_sem, simprocAttr, rdP], rfl, ?_⟩
  simp (disch := omega) only [go_sem, simprocAttr, hk]
  refine vcW_loop hN (fun q : Nat × Nat × Nat => ⟨[(0, .vptr 143032 0), (2, .int .i64 0), (3, .int .i64 q.2.2), (4, .int .i64 q.2.1), (2000000, .vptr 143032 0)], rdP b q.1⟩)
   (fun q => q.1 ≤ 1000001 ∧ q.2.1 < 4294967296 ∧ q.2.2 < 256 ∧ (if q.2.2 < 128 then H = (q.2.1, q.1, 0) else if 16777216 < q.2.1 then H = (0, 0, 3) else ∃ k, b.length - q.1 < k ∧ backL b k q.1 ((q.2.1 + 1) * 128) = H))
   (fun q => b.length + 1 - q.1) (p + 1, c % 128, c) (.le (by simp (disch := omega) only [go_sem, simprocAttr, rdP])) ⟨by simp only; omega, by simp only; omega, hu, by
    simp only
    by_cases hc : c < 128
    ·rw [if_pos hc, Nat.zero_add] at hH; rw [if_pos hc]; exact hH.symm
    ·rw [if_neg hc, Nat.zero_add] at hH
     rw [if_neg hc]
     by_cases hg : 16777216 < c % 128
     ·omega
     ·rw [if_neg hg] at hH ⊢
      exact ⟨_, by omega, hH⟩⟩ ?_
  clear hH hby hk
  rintro ⟨p2, n, d⟩ R1 ⟨hp2, hn, hd, hH⟩ hR1
  simp only at hp2 hn hd hH
  by_cases hc : d < 128
  ·rw [if_pos hc] at hH
   subst hH
   have hret := hret rfl
   simp only [rdP] at hret
   simp (disch := omega) only [go_sem, simprocAttr, rdP]
   exact hret
  ·rw [if_neg hc] at hH
   by_cases hg : 16777216 < n
   ·rw [if_pos hg] at hH
    subst hH
    simp (disch := omega) only [go_sem, simprocAttr, rdP]
    exact hdie _ (by decide)
   ·rw [if_neg hg] at hH
    obtain ⟨k, hk, hH⟩ := hH
    by_cases hend : b.length ≤ p2
    ·rw [backL_end b hend] at hH
     subst hH
     simp (disch := omega) only [go_sem, simprocAttr, rdP]
     refine dc_die (rdP b p2) (pbyte_die b p2 (by omega) hb hend) (by simp (disch := omega) only [go_sem, simprocAttr, rdP]) ?_
     exact hdie _ (by decide)
    ·have hby := pbyte_ok b p2 hb (by omega)
     have hu := (b.getD p2 0).toNat_lt
     obtain ⟨k, rfl⟩ : ∃ k', k = k' + 1 := ⟨k - 1, by omega⟩
     rw [backL_succ, if_neg hend] at hH
     generalize (b.getD p2 0).toNat = x at *
     have hk2 : bits .and .i64 (x : Int) 127 = ((x % 128 : Nat) : Int) := and_i64 (n := 7) (by omega) (by decide)
     have ho := or_7 (x := n + 1) (b := x % 128) (by omega) (Nat.mod_lt _ (by decide))
     have e1 : ((n + 1 : Nat) : Int) = (n : Int) + 1 := by omega
     rw [e1] at ho
     have e2 : (n + 1) * 128 + x % 128 = 128 * (n + 1) + x % 128 := by omega
     rw [e2] at hH
     simp (disch := omega) only [go_sem, simprocAttr, rdP]
     refine dc_ret ?_
     refine call_win (rdP b p2) hby (by simp (disch := omega) only [go_sem, simprocAttr, rdP]) nofun ?_
     rintro h' v ar ⟨rfl, rfl, rfl⟩
     refine ⟨by simp (disch := omega) only [go_sem, simprocAttr, rdP], rfl, ?_⟩
     simp (disch := omega) only [go_sem, simprocAttr, hk2, ho]
     have hz : 128 * (n + 1) + x % 128 < 4294967296 := by omega
     generalize 128 * (n + 1) + x % 128 = z at *
     refine hR1 (p2 + 1, z, x) _ (by simp only; omega) ⟨by simp only; omega, hz, hu, ?_⟩ (.le ?_)
     ·simp only
      by_cases hx : x < 128
      ·rw [if_pos hx] at hH ⊢; exact hH.symm
      ·rw [if_neg hx] at hH ⊢
       by_cases hg2 : 16777216 < z
       ·rw [if_pos hg2] at hH ⊢; exact hH.symm
       ·rw [if_neg hg2] at hH ⊢; exact ⟨k, by omega, hH⟩
     ·simp (disch := omega) only [go_sem, simprocAttr, rdP]
theorem pback_ok (b : Bs) (p : Nat) (hb : b.length ≤ 1000000) (hp : p ≤ 1000000) (he : (backP b p).2.2 = 0) : Eng.Spec Tryd.prog 25 (rdP b p) [.vptr 143032 0]
    (fun h' v ar => h' = rdP b (backP b p).2.1 ∧ v = .int .i64 ((backP b p).1 : Nat) ∧ ar = [.vptr 143032 0]) := by
 refine Cod.pback_spec (fun E R hN hR => ?_)
 refine pback_gen b p hb hp hN _ (fun _ => ?_) (fun st h => absurd he h)
 simp (disch := omega) only [go_sem, simprocAttr, rdP]
 exact hR.le (by simp (disch := omega) only [go_sem, simprocAttr, rdP]) ⟨rfl, rfl, rfl⟩
theorem pback_die (b : Bs) (p : Nat) (hb : b.length ≤ 1000000) (hp : p ≤ 1000000) (he : (backP b p).2.2 ≠ 0) : Eng.SpecDies Tryd.prog 25 (rdP b p) [.vptr 143032 0] (wrongP (backP b p).2.2) := by
 refine Cod.pback_dies (fun E hN => ?_)
 exact pback_gen b p hb hp hN _ (fun h => absurd h he) (fun st _ => of_eq_true kqDies_p)
end Go.Proofs.YtjoefngnjoofeaaDoor.Pk
namespace Go.Proofs.YtjoefngnjoofeaaDoor.Pk
open Eng Sh
set_option maxRecDepth 10000
structure En where
 at_ : Nat
 next : Nat
 kind : Nat
 data : Bs
 base : Nat
 id : Bs
 crc : W
def en0 : En := ⟨0, 0, 0, [], 0, [], 0#32⟩
def enL (e : En) : List AV := [.int .i64 e.at_, .int .i64 e.next, .int .i64 e.kind, .str e.data, .int .i64 e.base, .str e.id, .int .u32 e.crc.toNat]
def midE (b : Bs) (p k q : Nat) : Nat × Bs × Nat × Nat :=
 if 1 ≤ k ∧ k ≤ 4 then (0, [], q, 0) else
 if k = 6 then (if (backP b q).2.2 ≠ 0 then (0, [], 0, (backP b q).2.2) else if (backP b q).1 < 1 ∨ p - 12 < (backP b q).1 then (0, [], 0, 3) else (p - (backP b q).1, [], (backP b q).2.1, 0)) else
 if k = 7 then (if b.length - q < 20 then (0, [], 0, 6) else (0, hexOf ((b.drop q).take 20), q + 20, 0)) else (0, [], 0, 10)
def endE (b : Bs) (p : Nat) (k size : Nat) (M : Nat × Bs × Nat × Nat) : En × Nat :=
 if M.2.2.2 ≠ 0 then (en0, M.2.2.2) else if 65000 < size then (en0, 2) else
 if (zlibS (b.drop M.2.2.1) size).2.2 = 2 ∨ ((zlibS (b.drop M.2.2.1) size).2.2 = 0 ∧ (zlibS (b.drop M.2.2.1) size).1.length < size) then (en0, 3) else
 if (zlibS (b.drop M.2.2.1) size).2.2 ≠ 0 then (en0, (zlibS (b.drop M.2.2.1) size).2.2) else
 (⟨p, M.2.2.1 + (zlibS (b.drop M.2.2.1) size).2.1, k, (zlibS (b.drop M.2.2.1) size).1, M.1, M.2.1, crcT ((b.drop p).take (M.2.2.1 + (zlibS (b.drop M.2.2.1) size).2.1 - p))⟩, 0)
def readE (b : Bs) (p : Nat) : En × Nat :=
 if (headP b p).2.2.2 ≠ 0 then (en0, (headP b p).2.2.2) else endE b p (headP b p).1 (headP b p).2.1 (midE b p (headP b p).1 (headP b p).2.2.1)
def readP (s : Bs) (a : Int) : En × Nat := if a < 12 ∨ (s.length : Int) - 20 < a then (en0, 1) else readE (s.take (s.length - 20)) a.toNat
theorem headR_le (b : Bs) : ∀ (m p size sh : Nat), (headR b m p size sh).2.2 = 0 → (headR b m p size sh).2.1 ≤ b.length ∧ p < (headR b m p size sh).2.1
 | 0, p, size, sh => by
  unfold headR
  split <;> intro h <;> cases h
 | m + 1, p, size, sh => by
  unfold headR
  split
  ·intro h; cases h
  ·split
   ·intro _; simp only; omega
   ·intro h
    have := headR_le b m _ _ _ h
    omega
theorem headR_size (b : Bs) : ∀ (m p size sh : Nat), size < 2 ^ sh → (headR b m p size sh).1 < 2 ^ (sh + 7 * m)
 | 0, p, size, sh => by
  intro _
  unfold headR
  split <;> exact Nat.pow_pos (by decide)
 | m + 1, p, size, sh => by
  intro hs
  have h2 : ∀ x, size + x % 128 * 2 ^ sh < 2 ^ (sh + 7) := by
   intro x
   have h1 : x % 128 ≤ 127 := by omega
   have h2 : x % 128 * 2 ^ sh ≤ 127 * 2 ^ sh := Nat.mul_le_mul_right _ h1
   rw [Nat.pow_add]
   omega
  unfold headR
  split
  ·exact Nat.pow_pos (by decide)
  ·split
   ·refine Nat.lt_of_lt_of_le (h2 _) (Nat.pow_le_pow_right (by decide) (by omega))
   ·have := headR_size b m (p + 1) _ (sh + 7) (h2 (b.getD p 0).toNat)
    rw [show sh + 7 + 7 * m = sh + 7 * (m + 1) by omega] at this
    exact this
theorem headP_le (b : Bs) (p : Nat) (h : (headP b p).2.2.2 = 0) : (headP b p).2.2.1 ≤ b.length ∧ p < (headP b p).2.2.1 ∧ (headP b p).1 < 8 ∧ (headP b p).2.1 < 4294967296 := by
 unfold headP at h ⊢
 split at h
 ·cases h
 ·rename_i h0
  rw [if_neg h0]
  have hu := (b.getD p 0).toNat_lt
  split at h
  ·rename_i h1
   rw [if_pos h1]
   simp only
   omega
  ·rename_i h1
   rw [if_neg h1]
   split at h
   ·rename_i h2; exact (h2 h).elim
   ·rename_i h2
    rw [if_neg h2]
    have h3 := headR_le b 4 (p + 1) ((b.getD p 0).toNat % 16) 4 (by simpa using h2)
    have h4 := headR_size b 4 (p + 1) ((b.getD p 0).toNat % 16) 4 (by omega)
    simp only
    have h5 : 2 ^ (4 + 7 * 4) = 4294967296 := by decide
    omega
theorem backL_le (b : Bs) : ∀ (k p n : Nat), (backL b k p n).2.2 = 0 → (backL b k p n).2.1 ≤ b.length ∧ p < (backL b k p n).2.1
 | 0, p, n => by intro h; cases h
 | k + 1, p, n => by
  rw [backL_succ]
  split
  ·intro h; cases h
  ·split
   ·intro _; simp only; omega
   ·split
    ·intro h; cases h
    ·intro h
     have := backL_le b k _ _ h
     omega
theorem backL_size (b : Bs) : ∀ (k p n : Nat), n ≤ 2147483776 → (backL b k p n).1 < 4294967296
 | 0, p, n, _ => by show 0 < _; decide
 | k + 1, p, n, hn => by
  rw [backL_succ]
  split
  ·decide
  ·split
   ·simp only; omega
   ·split
    ·decide
    ·exact backL_size b k _ _ (by omega)
theorem back_size (b : Bs) (q : Nat) (h : (backP b q).2.2 = 0) : (backP b q).1 < 4294967296 := backL_size b _ _ _ (by decide)
theorem mid_le (b : Bs) (p k q : Nat) (hq : q ≤ b.length) (h : (midE b p k q).2.2.2 = 0) : (midE b p k q).2.2.1 ≤ b.length ∧ q ≤ (midE b p k q).2.2.1 := by
 unfold midE at h ⊢
 split at h
 ·rename_i h1; rw [if_pos h1]; exact ⟨hq, Nat.le_refl _⟩
 ·rename_i h1
  rw [if_neg h1]
  split at h
  ·rename_i h2
   rw [if_pos h2]
   split at h
   ·rename_i h3; exact (h3 h).elim
   ·rename_i h3
    rw [if_neg h3]
    have := backL_le b _ _ _ (by simpa [backP] using h3)
    split at h
    ·cases h
    ·rename_i h4; rw [if_neg h4]; simp only [backP]; omega
  ·rename_i h2
   rw [if_neg h2]
   split at h
   ·rename_i h3
    rw [if_pos h3]
    split at h
    ·cases h
    ·rename_i h4; rw [if_neg h4]; simp only; omega
   ·cases h
theorem pdie {st : St} {R : HP → AV → List AV → Prop} {t : TypeId} {n : Int} {e : Nat} (cs0 : List AV) (x1 : AV) (hn : n = (e : Nat)) (has : ghV st 2 2 = [.vptr 143004 0, .vptr 143005 0]) (hsub : leH st.h [(143004, .var cs0), (143005, .var [x1])])
    (h : (KQ.post [.cell 4 true 7, .cell 5 false 1] 2 R).ap .ret (afterG st 2 2 [(143004, .var cs0), (143005, .var [x1])] [(143005, .var [.int .i64 (e : Nat)]), (143004, .var zeroC)])) (hc0 : cs0.length = 7 := by rfl) (ht : t = 61 := by rfl) :
    (KQ.gC Tryd.prog [.cell 4 true 7, .cell 5 false 1] 2 2 23 R).ap (.panic (pan (.iface t (.int .i64 n)))) st := by
 subst hn ht
 exact gC_of [(143004, .var cs0), (143005, .var [x1])] [(143005, .var [.int .i64 (e : Nat)]), (143004, .var zeroC)] has (pguard_rec e 143004 143005 cs0 x1 (by decide) hc0) rfl hsub h
set_option maxHeartbeats 1000000 in
theorem pread_ok (s : Bs) (a : Int) (hs : s.length ≤ 1000000) (ha : -9223372036854775808 ≤ a ∧ a ≤ 9223372036854775807) : SpecR Tryd.prog 9 [.str s, .int .i64 a] (.tup [.agg (enL (readP s a).1), .int .i64 ((readP s a).2 : Nat)]) := by
 refine Cod.pread_spec pguard_idle (fun E R N hN hN2 hR => ?_)
 unfold readP at hR
 by_cases h12 : a < 12
 ·rw [if_pos (.inl h12)] at hR
  simp (disch := omega) only [go_sem, simprocAttr]
  (repeat (first | refine gskip_of ?_ | refine gcskip_of ?_ | refine gopen_of ?_) <;> simp (disch := omega) only [go_sem, simprocAttr])
  exact hR.ro ⟨rfl, rfl⟩
 ·by_cases hbig : (s.length : Int) - 20 < a
  ·rw [if_pos (.inr hbig)] at hR
   simp (disch := omega) only [go_sem, simprocAttr]
   (repeat (first | refine gskip_of ?_ | refine gcskip_of ?_ | refine gopen_of ?_) <;> simp (disch := omega) only [go_sem, simprocAttr])
   exact hR.ro ⟨rfl, rfl⟩
  ·rw [if_neg (by omega)] at hR
   obtain ⟨p, rfl⟩ : ∃ p : Nat, a = (p : Int) := ⟨a.toNat, by omega⟩
   rw [Int.toNat_natCast] at hR
   simp (disch := omega) only [go_sem, simprocAttr]
   (repeat (first | refine gskip_of ?_ | refine gcskip_of ?_ | refine gopen_of ?_) <;> simp (disch := omega) only [go_sem, simprocAttr])
   have et : ((s.length : Int) - 20).toNat = s.length - 20 := by omega
   refine dC_of (fun E' hN' => ?_) hN2
   have hbl : (s.take (s.length - 20)).length = s.length - 20 := by rw [List.length_take]; omega
   generalize hbb : s.take (s.length - 20) = b at *
   simp (disch := omega) only [go_sem, simprocAttr, et, hbb]
   unfold readE at hR
   by_cases hhe : (headP b p).2.2.2 = 0
   ·rw [if_neg (by simpa using hhe)] at hR
    have hle := headP_le b p hhe
    have hk := phead_ok b p (by omega) (by omega) hhe
    generalize headP b p = H at *
    obtain ⟨k, size, q, he⟩ := H
    simp only at hle hk hR
    refine dc_ret ?_
    refine call_win (rdP b p) hk (by simp (disch := omega) only [go_sem, simprocAttr, rdP]) nofun ?_
    rintro h' v ar ⟨rfl, rfl, rfl⟩
    refine ⟨by simp (disch := omega) only [go_sem, simprocAttr, rdP], rfl, ?_⟩
    have hml := mid_le b p k q hle.1
    have hmd : midE b p k q = midE b p k q := rfl
    generalize hM : midE b p k q = M at hR hml
    simp (disch := omega) only [go_sem, simprocAttr, rdP]
    refine vcW_cut (y := Cod.pread_10) hN' (fun _ : Unit => ⟨[(1, .int .i64 p), (4, .vptr 143004 0), (5, .vptr 143005 0), (6, .str b), (7, .vptr 143032 0), (9, .int .i64 size), (2000002, .vptr 143004 0), (2000003, .vptr 143005 0)],
     [(143004, .var [.int .i64 p, .int .i64 0, .int .i64 k, .str [], .int .i64 M.1, .str M.2.1, .int .u32 0]), (143032, .var [.str b, .int .i64 M.2.2.1]), (143005, .var [.int .i64 0])]⟩) (fun _ => M.2.2.2 = 0) (fun R2 hR2 => ?_) (fun _ hM0 => ?_)
    ·-- between the head and the frame
     have hdz : ∀ e : Nat, e ≠ 0 → M.2.2.2 = e → (endE b p k size M) = (en0, e) := by
      intro e he0 he
      unfold endE
      rw [if_pos (by rw [he]; exact he0), he]
     have ksm : k < 8 := hle.2.2.1
     simp (disch := omega) only [go_sem, simprocAttr]
     refine vcW_cut (y := .cond (.t 44) .skip Cod.pread_31) hN' (fun _ : Unit => ⟨[(1, .int .i64 p), (4, .vptr 143004 0), (5, .vptr 143005 0), (6, .str b), (7, .vptr 143032 0), (9, .int .i64 size), (42, .int .i64 k), (44, .bool (decide (1 ≤ k ∧ k ≤ 4))), (2000002, .vptr 143004 0), (2000003, .vptr 143005 0)],
      [(143004, .var [.int .i64 p, .int .i64 0, .int .i64 k, .str [], .int .i64 0, .str [], .int .u32 0]), (143032, .var [.str b, .int .i64 q]), (143005, .var [.int .i64 0])]⟩) (fun _ => True) (fun R3 hR3 => ?_) (fun _ _ => ?_)
     ·by_cases k1 : k = 1
      ·subst k1
       simp (disch := omega) only [go_sem, simprocAttr]
       exact hR3 () _ trivial (.le (by simp (disch := omega) only [go_sem, simprocAttr]))
      ·by_cases k2 : k = 2
       ·subst k2
        simp (disch := omega) only [go_sem, simprocAttr]
        exact hR3 () _ trivial (.le (by simp (disch := omega) only [go_sem, simprocAttr]))
       ·by_cases k3 : k = 3
        ·subst k3
         simp (disch := omega) only [go_sem, simprocAttr]
         exact hR3 () _ trivial (.le (by simp (disch := omega) only [go_sem, simprocAttr]))
        ·by_cases k4 : k = 4
         ·subst k4
          simp (disch := omega) only [go_sem, simprocAttr]
          exact hR3 () _ trivial (.le (by simp (disch := omega) only [go_sem, simprocAttr]))
         ·have i1 : ¬ (k : Int) = 1 := by omega
          have i2 : ¬ (k : Int) = 2 := by omega
          have i3 : ¬ (k : Int) = 3 := by omega
          have i4 : ¬ (k : Int) = 4 := by omega
          rw [decide_eq_false (by omega)] at hR3
          simp (disch := omega) only [go_sem, simprocAttr, i1, i2, i3, i4]
          exact hR3 () _ trivial (.le (by simp (disch := omega) only [go_sem, simprocAttr]))
     ·unfold midE at hM
      by_cases kk : 1 ≤ k ∧ k ≤ 4
      ·rw [if_pos kk] at hM
       subst hM
       rw [decide_eq_true kk]
       simp (disch := omega) only [go_sem, simprocAttr]
       exact hR2 () _ rfl (.le (by simp (disch := omega) only [go_sem, simprocAttr]))
      ·rw [if_neg kk] at hM
       rw [decide_eq_false kk]
       by_cases k6 : k = 6
       ·rw [if_pos k6] at hM
        subst k6
        by_cases hbe : (backP b q).2.2 = 0
        ·rw [if_neg (by simpa using hbe)] at hM
         have hbk := pback_ok b q (by omega) (by omega) hbe
         have hbl := backL_le b _ _ _ hbe
         change (backP b q).2.1 ≤ b.length ∧ q < (backP b q).2.1 at hbl
         have hbs := back_size b q hbe
         generalize backP b q = B at *
         simp (disch := omega) only [go_sem, simprocAttr]
         refine dc_ret ?_
         refine call_win (rdP b q) hbk (by simp (disch := omega) only [go_sem, simprocAttr, rdP]) nofun ?_
         rintro h' v ar ⟨rfl, rfl, rfl⟩
         refine ⟨by simp (disch := omega) only [go_sem, simprocAttr, rdP], rfl, ?_⟩
         by_cases hb1 : B.1 < 1 ∨ p - 12 < B.1
         ·rw [if_pos hb1] at hM
          rw [hdz 3 (by decide) (by rw [← hM])] at hR
          by_cases hb2 : B.1 < 1
          ·have i1 : (B.1 : Int) < 1 := by omega
           simp (disch := omega) only [go_sem, simprocAttr, rdP, i1]
           (repeat (first | refine gskip_of ?_ | refine gcskip_of ?_ | refine gopen_of ?_) <;> simp (disch := omega) only [go_sem, simprocAttr, rdP, i1])
           refine pdie (t := 61) [.int .i64 p, .int .i64 0, .int .i64 6, .str [], .int .i64 0, .str [], .int .u32 0] (.int .i64 0) rfl ?_ ?_ ?_
           all_goals simp (disch := omega) only [go_sem, simprocAttr, zeroC]
           exact hR.ro ⟨rfl, rfl⟩
          ·have i1 : ¬ (B.1 : Int) < 1 := by omega
           have i2 : (p : Int) - 12 < (B.1 : Int) := by omega
           simp (disch := omega) only [go_sem, simprocAttr, rdP, i1, i2]
           (repeat (first | refine gskip_of ?_ | refine gcskip_of ?_ | refine gopen_of ?_) <;> simp (disch := omega) only [go_sem, simprocAttr, rdP, i1, i2])
           refine pdie (t := 61) [.int .i64 p, .int .i64 0, .int .i64 6, .str [], .int .i64 0, .str [], .int .u32 0] (.int .i64 0) rfl ?_ ?_ ?_
           all_goals simp (disch := omega) only [go_sem, simprocAttr, zeroC]
           exact hR.ro ⟨rfl, rfl⟩
         ·rw [if_neg hb1] at hM
          subst hM
          have i1 : ¬ (B.1 : Int) < 1 := by omega
          have i2 : ¬ (p : Int) - 12 < (B.1 : Int) := by omega
          have i3 : (p : Int) - (B.1 : Int) = ((p - B.1 : Nat) : Int) := by omega
          simp (disch := omega) only [go_sem, simprocAttr, rdP, i1, i2]
          (repeat (first | refine gskip_of ?_ | refine gcskip_of ?_ | refine gopen_of ?_) <;> simp (disch := omega) only [go_sem, simprocAttr, rdP, i1, i2])
          exact hR2 () _ rfl (.le (by rw [← i3]; simp (disch := omega) only [go_sem, simprocAttr]))
        ·rw [if_pos hbe] at hM
         have hd := pback_die b q (by omega) (by omega) hbe
         rw [hdz _ hbe (by rw [← hM])] at hR
         generalize backP b q = B at *
         simp (disch := omega) only [go_sem, simprocAttr]
         refine dc_die (rdP b q) hd (by simp (disch := omega) only [go_sem, simprocAttr, rdP]) ?_
         refine pdie (t := 61) [.int .i64 p, .int .i64 0, .int .i64 6, .str [], .int .i64 0, .str [], .int .u32 0] (.int .i64 0) rfl ?_ ?_ ?_
         all_goals simp (disch := omega) only [go_sem, simprocAttr, afterD_st, rdP, zeroC]
         exact hR.ro ⟨rfl, rfl⟩
       ·rw [if_neg k6] at hM
        have i6 : ¬ (k : Int) = 6 := by omega
        by_cases k7 : k = 7
        ·rw [if_pos k7] at hM
         subst k7
         by_cases h20 : b.length - q < 20
         ·rw [if_pos h20] at hM
          rw [hdz 6 (by decide) (by rw [← hM])] at hR
          have i1 : (b.length : Int) - (q : Int) < 20 := by omega
          simp (disch := omega) only [go_sem, simprocAttr, i1]
          refine pdie (t := 61) [.int .i64 p, .int .i64 0, .int .i64 7, .str [], .int .i64 0, .str [], .int .u32 0] (.int .i64 0) rfl ?_ ?_ ?_
          all_goals simp (disch := omega) only [go_sem, simprocAttr, zeroC]
          exact hR.ro ⟨rfl, rfl⟩
         ·rw [if_neg h20] at hM
          subst hM
          have i1 : ¬ (b.length : Int) - (q : Int) < 20 := by omega
          have e20 : q + 20 - q = 20 := by omega
          have ei : ((q : Int) + 20).toNat - q = 20 := by omega
          have hhx := hex_ok ((b.drop q).take 20) (by rw [List.length_take]; omega)
          simp (disch := omega) only [go_sem, simprocAttr, i1, e20, ei]
          refine call_ro hhx rfl rfl ?_
          simp (disch := omega) only [go_sem, simprocAttr]
          exact hR2 () _ rfl (.le (by simp (disch := omega) only [go_sem, simprocAttr]))
        ·rw [if_neg k7] at hM
         rw [hdz 10 (by decide) (by rw [← hM])] at hR
         have i7 : ¬ (k : Int) = 7 := by omega
         simp (disch := omega) only [go_sem, simprocAttr, i6, i7]
         refine pdie (t := 61) [.int .i64 p, .int .i64 0, .int .i64 k, .str [], .int .i64 0, .str [], .int .u32 0] (.int .i64 0) rfl ?_ ?_ ?_
         all_goals simp (disch := omega) only [go_sem, simprocAttr, zeroC]
         exact hR.ro ⟨rfl, rfl⟩
    ·unfold endE at hR
     rw [if_neg (by simpa using hM0)] at hR
     have hml := hml hM0
     by_cases hsz : 65000 < size
     ·rw [if_pos hsz] at hR
      simp (disch := omega) only [go_sem, simprocAttr]
      refine pdie (t := 61) [.int .i64 p, .int .i64 0, .int .i64 k, .str [], .int .i64 M.1, .str M.2.1, .int .u32 0] (.int .i64 0) rfl ?_ ?_ ?_
      all_goals simp (disch := omega) only [go_sem, simprocAttr, zeroC]
      exact hR.ro ⟨rfl, rfl⟩
     ·rw [if_neg hsz] at hR
      have hz := zread_ok b M.2.2.1 size (by omega) (by omega) (by omega)
      have hzl := zlib_len (b.drop M.2.2.1) size
      rw [List.length_drop] at hzl
      generalize zlibS (b.drop M.2.2.1) size = Z at *
      simp (disch := omega) only [go_sem, simprocAttr]
      refine call_ro hz rfl rfl ?_
      simp (disch := omega) only [go_sem, simprocAttr]
      refine vcW_cut (y := Cod.pread_13) hN' (fun _ : Unit => ⟨[(1, .int .i64 p), (4, .vptr 143004 0), (5, .vptr 143005 0), (6, .str b), (7, .vptr 143032 0), (11, .str Z.1), (12, .int .i64 Z.2.1), (2000002, .vptr 143004 0), (2000003, .vptr 143005 0)],
       [(143005, .var [.int .i64 (if Z.2.2 = 2 ∨ (Z.2.2 = 0 ∧ Z.1.length < size) then 3 else Z.2.2 : Nat)]), (143004, .var [.int .i64 p, .int .i64 0, .int .i64 k, .str [], .int .i64 M.1, .str M.2.1, .int .u32 0]), (143032, .var [.str b, .int .i64 M.2.2.1])]⟩) (fun _ => True) (fun R3 hR3 => ?_) (fun _ _ => ?_)
      ·by_cases z2 : Z.2.2 = 2
       ·rw [if_pos (.inl z2)] at hR3
        have i1 : (Z.2.2 : Int) = 2 := by omega
        simp (disch := omega) only [go_sem, simprocAttr, i1]
        (repeat (first | refine gskip_of ?_ | refine gcskip_of ?_ | refine gopen_of ?_) <;> simp (disch := omega) only [go_sem, simprocAttr, i1])
        exact hR3 () _ trivial (.le (by simp (disch := omega) only [go_sem, simprocAttr]))
       ·have i1 : ¬ (Z.2.2 : Int) = 2 := by omega
        by_cases z0 : Z.2.2 = 0
        ·have i2 : (Z.2.2 : Int) = 0 := by omega
         by_cases zl : Z.1.length < size
         ·rw [if_pos (.inr ⟨z0, zl⟩)] at hR3
          simp (disch := omega) only [go_sem, simprocAttr, i1, i2]
          (repeat (first | refine gskip_of ?_ | refine gcskip_of ?_ | refine gopen_of ?_) <;> simp (disch := omega) only [go_sem, simprocAttr, i1, i2])
          exact hR3 () _ trivial (.le (by simp (disch := omega) only [go_sem, simprocAttr]))
         ·rw [if_neg (by omega), z0] at hR3
          simp (disch := omega) only [go_sem, simprocAttr, i1, i2]
          (repeat (first | refine gskip_of ?_ | refine gcskip_of ?_ | refine gopen_of ?_) <;> simp (disch := omega) only [go_sem, simprocAttr, i1, i2])
          exact hR3 () _ trivial (.le (by simp (disch := omega) only [go_sem, simprocAttr]))
        ·have i2 : ¬ (Z.2.2 : Int) = 0 := by omega
         rw [if_neg (by omega)] at hR3
         simp (disch := omega) only [go_sem, simprocAttr, i1, i2]
         (repeat (first | refine gskip_of ?_ | refine gcskip_of ?_ | refine gopen_of ?_) <;> simp (disch := omega) only [go_sem, simprocAttr, i1, i2])
         exact hR3 () _ trivial (.le (by simp (disch := omega) only [go_sem, simprocAttr]))
      ·by_cases zz : Z.2.2 = 2 ∨ (Z.2.2 = 0 ∧ Z.1.length < size)
       ·rw [if_pos zz] at hR ⊢
        simp (disch := omega) only [go_sem, simprocAttr]
        refine pdie (t := 61) [.int .i64 p, .int .i64 0, .int .i64 k, .str [], .int .i64 M.1, .str M.2.1, .int .u32 0] (.int .i64 3) rfl ?_ ?_ ?_
        all_goals simp (disch := omega) only [go_sem, simprocAttr, zeroC]
        exact hR.ro ⟨rfl, rfl⟩
       ·rw [if_neg zz] at hR ⊢
        by_cases z0 : Z.2.2 = 0
        ·rw [if_neg (by simpa using z0)] at hR
         have hcr := crc32_ok ((b.drop p).take (M.2.2.1 + Z.2.1 - p)) (by rw [List.length_take, List.length_drop]; omega)
         have et2 : ((M.2.2.1 : Int) + (Z.2.1 : Int)).toNat - p = M.2.2.1 + Z.2.1 - p := by omega
         rw [z0]
         simp (disch := omega) only [go_sem, simprocAttr, et2]
         refine call_ro hcr rfl rfl ?_
         simp (disch := omega) only [go_sem, simprocAttr]
         exact hR.ro ⟨rfl, rfl⟩
        ·rw [if_pos z0] at hR
         have i2 : ¬ (Z.2.2 : Int) = 0 := by omega
         simp (disch := omega) only [go_sem, simprocAttr, i2]
         refine pdie (t := 61) [.int .i64 p, .int .i64 0, .int .i64 k, .str [], .int .i64 M.1, .str M.2.1, .int .u32 0] (.int .i64 (Z.2.2 : Nat)) rfl ?_ ?_ ?_
         all_goals simp (disch := omega) only [go_sem, simprocAttr, zeroC]
         exact hR.ro ⟨rfl, rfl⟩
   ·rw [if_pos hhe] at hR
    have hd := phead_die b p (by omega) (by omega) hhe
    generalize headP b p = H at *
    refine dc_die (rdP b p) hd (by simp (disch := omega) only [go_sem, simprocAttr, rdP]) ?_
    refine pdie (t := 61) [.int .i64 p, .int .i64 0, .int .i64 0, .str [], .int .i64 0, .str [], .int .u32 0] (.int .i64 0) rfl ?_ ?_ ?_
    all_goals simp (disch := omega) only [go_sem, simprocAttr, afterD_st, rdP, zeroC]
    exact hR.ro ⟨rfl, rfl⟩
end Go.Proofs.YtjoefngnjoofeaaDoor.Pk
namespace Go.Proofs.YtjoefngnjoofeaaDoor.Pk
open Eng Sh
set_option maxRecDepth 10000
end Go.Proofs.YtjoefngnjoofeaaDoor.Pk
namespace Go.Proofs.YtjoefngnjoofeaaDoor.Pk
open Eng Sh
set_option maxRecDepth 10000
def packHd : Bs := [80, 65, 67, 75, 0, 0, 0, 2]
def countP (s : Bs) : Nat × Nat :=
 if s.length < 32 then (0, 6) else if s.take 8 ≠ packHd then (0, 3) else if 1000 < bigN ((s.drop 8).take 4) then (0, 2) else
 if sha1 (s.take (s.length - 20)) ≠ s.drop (s.length - 20) then (0, 5) else (bigN ((s.drop 8).take 4), 0)
theorem four_lt (s : Bs) (o : Nat) (h : o + 4 ≤ s.length) : bigN ((s.drop o).take 4) < 4294967296 := by
 have hl : ((s.drop o).take 4).length = 4 := by rw [List.length_take, List.length_drop]; omega
 have := bigN_lt ((s.drop o).take 4) 4 (by omega)
 rw [List.take_of_length_le (by omega)] at this
 exact this
theorem head_two (s : Bs) (h : 32 ≤ s.length) : s.take 8 = packHd ↔ (s.take 4 = [80, 65, 67, 75] ∧ bigN ((s.drop 4).take 4) = 2) := by
 have hl : ((s.drop 4).take 4).length = 4 := by rw [List.length_take, List.length_drop]; omega
 rw [big_four _ hl 2 (by decide), show (8 : Nat) = 4 + 4 from rfl, List.take_add, show packHd = [80, 65, 67, 75] ++ (litB 2 4).reverse from by decide]
 constructor
 ·intro h
  have h1 := List.append_inj h (by rw [List.length_take]; simp; omega)
  exact h1
 ·rintro ⟨h1, h2⟩
  rw [h1, h2]
set_option maxHeartbeats 1000000 in
theorem pcount_ok (s : Bs) (hs : s.length ≤ 100000) : SpecR Tryd.prog 13 [.str s] (.tup [.int .i64 ((countP s).1 : Nat), .int .i64 ((countP s).2 : Nat)]) := by
 refine Cod.pcount_spec (fun E R hN hR => ?_)
 unfold countP at hR
 by_cases h32 : s.length < 32
 ·rw [if_pos h32] at hR
  simp (disch := first | omega | (simp only [Lx]; omega)) only [go_sem, simprocAttr]
  exact hR.ro ⟨rfl, rfl⟩
 ·rw [if_neg h32] at hR
  have hh := head_two s (by omega)
  have hb4 := frombig_ok ((s.drop 4).take 4) (by rw [List.length_take]; omega)
  have hb8 := frombig_ok ((s.drop 8).take 4) (by rw [List.length_take]; omega)
  have hl4 := four_lt s 4 (by omega)
  have hl8 := four_lt s 8 (by omega)
  have hsum := sum1_ok (s.take (s.length - 20)) (by rw [List.length_take]; omega)
  have et : ((s.length : Int) - 20).toNat = s.length - 20 := by omega
  generalize bigN ((s.drop 4).take 4) = x4 at *
  generalize bigN ((s.drop 8).take 4) = x8 at *
  by_cases h3 : s.take 8 = packHd
  ·rw [if_neg (by simpa using h3)] at hR
   obtain ⟨h1, h2⟩ := hh.1 h3
   rw [h2] at hb4
   simp (disch := first | omega | (simp only [Lx]; omega)) only [go_sem, simprocAttr, h1]
   (repeat (first | refine gskip_of ?_ | refine gcskip_of ?_ | refine gopen_of ?_) <;> simp (disch := first | omega | (simp only [Lx]; omega)) only [go_sem, simprocAttr, h1])
   refine gcyes_of (callT_ro (by simp (disch := first | omega | (simp only [Lx]; omega)) only [go_sem, simprocAttr]) hb4 (by simp (disch := first | omega | (simp only [Lx]; omega)) only [go_sem, simprocAttr]) rfl rfl ?_)
   simp (disch := first | omega | (simp only [Lx]; omega)) only [go_sem, simprocAttr]
   (repeat (first | refine gskip_of ?_ | refine gcskip_of ?_ | refine gopen_of ?_) <;> simp (disch := first | omega | (simp only [Lx]; omega)) only [go_sem, simprocAttr])
   refine call_ro hb8 rfl rfl ?_
   by_cases h1000 : 1000 < x8
   ·rw [if_pos h1000] at hR
    simp (disch := first | omega | (simp only [Lx]; omega)) only [go_sem, simprocAttr]
    exact hR.ro ⟨rfl, rfl⟩
   ·rw [if_neg h1000] at hR
    simp (disch := first | omega | (simp only [Lx]; omega)) only [go_sem, simprocAttr, et]
    refine call_ro hsum rfl rfl ?_
    by_cases hsha : sha1 (s.take (s.length - 20)) = s.drop (s.length - 20)
    ·rw [if_neg (by simpa using hsha)] at hR
     simp (disch := first | omega | (simp only [Lx]; omega)) only [go_sem, simprocAttr, et, hsha]
     exact hR.ro ⟨rfl, rfl⟩
    ·rw [if_pos hsha] at hR
     simp (disch := first | omega | (simp only [Lx]; omega)) only [go_sem, simprocAttr, et, hsha]
     exact hR.ro ⟨rfl, rfl⟩
  ·rw [if_pos h3] at hR
   by_cases h1 : s.take 4 = [80, 65, 67, 75]
   ·have h2 : ¬ x4 = 2 := fun h2 => h3 (hh.2 ⟨h1, h2⟩)
    have i2 : ¬ ((x4 : Nat) : Int) = 2 := by omega
    simp (disch := first | omega | (simp only [Lx]; omega)) only [go_sem, simprocAttr, h1]
    (repeat (first | refine gskip_of ?_ | refine gcskip_of ?_ | refine gopen_of ?_) <;> simp (disch := first | omega | (simp only [Lx]; omega)) only [go_sem, simprocAttr, h1])
    refine gcyes_of (callT_ro (by simp (disch := first | omega | (simp only [Lx]; omega)) only [go_sem, simprocAttr]) hb4 (by simp (disch := first | omega | (simp only [Lx]; omega)) only [go_sem, simprocAttr]) rfl rfl ?_)
    simp (disch := first | omega | (simp only [Lx]; omega)) only [go_sem, simprocAttr, i2]
    (repeat (first | refine gskip_of ?_ | refine gcskip_of ?_ | refine gopen_of ?_) <;> simp (disch := first | omega | (simp only [Lx]; omega)) only [go_sem, simprocAttr, i2])
    exact hR.ro ⟨rfl, rfl⟩
   ·simp (disch := first | omega | (simp only [Lx]; omega)) only [go_sem, simprocAttr, h1]
    (repeat (first | refine gskip_of ?_ | refine gcskip_of ?_ | refine gopen_of ?_) <;> simp (disch := first | omega | (simp only [Lx]; omega)) only [go_sem, simprocAttr, h1])
    exact hR.ro ⟨rfl, rfl⟩
end Go.Proofs.YtjoefngnjoofeaaDoor.Pk
namespace Go.Proofs.YtjoefngnjoofeaaDoor.Pk
open Eng Sh
set_option maxRecDepth 10000
theorem few_ok (t : Bs) (n : Nat) (ht : t.length ≤ 4000000000000000000) (hn : n ≤ 100000) : SpecR Tryd.prog 6 [.str t, .int .i64 n] (.str (t.take n)) := by
 refine Cod.few_spec (fun E R hN hR => ?_)
 by_cases h : n < t.length
 ·have hi : (n : Int) < (t.length : Int) := by omega
  simp (disch := omega) only [go_sem, simprocAttr, hi]
  exact hR.ro ⟨rfl, rfl⟩
 ·rw [List.take_of_length_le (by omega)] at hR
  have hi : ¬ (n : Int) < (t.length : Int) := by omega
  simp (disch := omega) only [go_sem, simprocAttr, hi]
  exact hR.ro ⟨rfl, rfl⟩
end Go.Proofs.YtjoefngnjoofeaaDoor.Pk
namespace Go.Proofs.YtjoefngnjoofeaaDoor.Pk
open Eng Sh
set_option maxRecDepth 10000
theorem litB_rev_take (x n : Nat) {k : Nat} (h : k < n) : (litB x n).reverse.take (k + 1) = (litB x n).reverse.take k ++ [UInt8.ofNat (x / 256 ^ (n - 1 - k) % 256)] := by
 have hl := litB_len x n
 rw [rev_get (litB x n) (by omega), hl]
 congr 2
 simp [litB, List.getD_eq_getElem?_getD, show n - 1 - k < n by omega]
theorem big_ok (x n : Nat) (hx : x < 9223372036854775808) (hn : n ≤ 8) : SpecR Tryd.prog 14 [.int .u64 x, .int .i64 n] (.str (litB x n).reverse) := by
 refine Cod.big_spec (fun E R hN hR => ?_)
 have em : max (n : Int) 0 = n := by omega
 simp (disch := omega) only [go_sem, simprocAttr, em]
 refine vcW_loop hN (fun k : Nat => ⟨[(0, .int .u64 x), (1, .int .i64 n), (5, .sl 127029 0 k), (8, .int .i64 n), (9, .int .i64 k)], [(127029, .arr 1 (((litB x n).reverse.take k).map ub))]⟩) (fun k => k ≤ n) (fun k => n - k) 0 (.nil 5 127029 1 rfl (.le (by simp (disch := omega) only [go_sem, simprocAttr]))) (by omega) ?_
 rintro k R1 hk hR1
 have hl : ((litB x n).reverse.take k).length = k := by rw [List.length_take, List.length_reverse, litB_len]; omega
 by_cases hlt : k < n
 ·have hct := litB_rev_take x n hlt
  have e8 : ¬ (8 : Int) < (n : Int) - (k : Int) := by omega
  have hsh : (x : Int).fdiv (2 ^ min ((8 * ((n : Int) - 1 - (k : Int))).toNat) 64) = ((x / 256 ^ (n - 1 - k) : Nat) : Int) := by
   have e1 : (8 * ((n : Int) - 1 - (k : Int))).toNat = 8 * (n - 1 - k) := by omega
   rw [e1, Nat.min_eq_left (by omega), Int.fdiv_eq_ediv_of_nonneg _ (Int.pow_nonneg (by decide)), show (256 : Nat) = 2 ^ 8 from rfl, ← Nat.pow_mul]
   norm_cast
  generalize x / 256 ^ (n - 1 - k) = y at *
  have e3 : IntKind.u8.wrap (y : Int) = ((UInt8.ofNat (y % 256)).toNat : Int) := by
   rw [UInt8.toNat_ofNat']
   show (y : Int) % 256 = _
   omega
  simp (disch := omega) only [go_sem, simprocAttr, e8, hsh, e3]
  exact hR1 (k + 1) _ (by omega) (by omega) (.le (by rw [hct]; simp (disch := omega) only [go_sem, simprocAttr]; simp [ub]))
 ·obtain rfl : k = n := by omega
  rw [List.take_of_length_le (by rw [List.length_reverse, litB_len]; omega)] at hl ⊢
  simp (disch := omega) only [go_sem, simprocAttr]
  exact hR.wk (h' := []) (r' := .str (litB x k).reverse) (ar' := [.undef, .undef]) rfl (.le (by simp (disch := omega) only [go_sem, simprocAttr])) ⟨rfl, rfl⟩
def hd0 : Bs := packHd ++ [0, 0, 0, 0]
def pack0 : Bs := hd0 ++ sha1 hd0
theorem build_nil : SpecR Tryd.prog 7 [.nilsl] (.tup [.str pack0, .int .i64 (0 : Nat)]) := by
 refine Cod.pbuild_spec (fun E R hN hR => ?_)
 have h2 := big_ok 2 4 (by decide) (by decide)
 have h0 := big_ok 0 4 (by decide) (by decide)
 have hs := sum1_ok hd0 (by decide)
 have e2 : (litB 2 4).reverse = [0, 0, 0, 2] := by decide
 have e0 : (litB 0 4).reverse = [0, 0, 0, 0] := by decide
 rw [e2] at h2
 rw [e0] at h0
 unfold pack0 at hR
 simp (disch := omega) only [go_sem, simprocAttr]
 refine call_ro h2 rfl rfl ?_
 simp (disch := omega) only [go_sem, simprocAttr]
 refine call_ro h0 rfl rfl ?_
 simp (disch := omega) only [go_sem, simprocAttr]
 refine vcW_loop hN (fun _ : Unit => ⟨[(0, .nilsl), (4, .str hd0), (5, .nilsl), (25, .nilsl), (26, .int .i64 0), (27, .int .i64 0)], []⟩) (fun _ => True) (fun _ => 0) () (.le (by simp (disch := omega) only [go_sem, simprocAttr]; rfl)) trivial ?_
 rintro _ R1 _ hR1
 have hl : hd0.length = 12 := rfl
 generalize hd0 = d at *
 simp (disch := omega) only [go_sem, simprocAttr]
 refine call_ro hs rfl rfl ?_
 have hsl := sha1_len d
 simp (disch := omega) only [go_sem, simprocAttr]
 exact hR.ro ⟨rfl, rfl⟩
theorem count0 : countP pack0 = (0, 0) := by
 have hl : hd0.length = 12 := rfl
 have hs := sha1_len hd0
 have h8 : pack0.take 8 = packHd := by
  unfold pack0
  rw [List.take_append_of_le_length (by omega)]; rfl
 have h12 : (pack0.drop 8).take 4 = [0, 0, 0, 0] := by
  unfold pack0
  rw [List.drop_append_of_le_length (by omega), List.take_append_of_le_length (by rw [List.length_drop]; omega)]; rfl
 have hll : pack0.length = 32 := by unfold pack0; rw [List.length_append, hl, hs]
 have ht : pack0.take 12 = hd0 := by unfold pack0; rw [List.take_append_of_le_length (by omega), List.take_of_length_le (by omega)]
 have hd : pack0.drop 12 = sha1 hd0 := by unfold pack0; rw [← hl, List.drop_left]
 unfold countP
 rw [if_neg (by omega), if_neg (by simpa using h8), h12, show bigN [0, 0, 0, 0] = 0 by decide, if_neg (by decide), hll, ht, hd, if_neg (by simp)]
theorem read0 : (readP pack0 12).2 = 6 := by
 have hl : hd0.length = 12 := rfl
 have hs := sha1_len hd0
 have hll : pack0.length = 32 := by unfold pack0; rw [List.length_append, hl, hs]
 have ht : pack0.take 12 = hd0 := by unfold pack0; rw [List.take_append_of_le_length (by omega), List.take_of_length_le (by omega)]
 unfold readP
 rw [if_neg (by rw [hll]; decide), hll, show 32 - 20 = 12 from rfl, ht, show (12 : Int).toNat = 12 from rfl]
 unfold readE
 rw [show headP hd0 12 = (0, 0, 0, 6) from if_pos (by decide)]
 rfl
set_option maxHeartbeats 1000000 in
theorem awake_ok : SpecR Tryd.prog 8 [] (.bool true) := by
 refine Cod.awake11_spec (fun E R hN hR => ?_)
 have hl : hd0.length = 12 := rfl
 have hs := sha1_len hd0
 have hll : pack0.length = 32 := by unfold pack0; rw [List.length_append, hl, hs]
 have ht : pack0.take 12 = [80, 65, 67, 75, 0, 0, 0, 2, 0, 0, 0, 0] := by unfold pack0; rw [List.take_append_of_le_length (by omega), List.take_of_length_le (by omega)]; rfl
 have hc := pcount_ok pack0 (by omega)
 have hr := pread_ok pack0 12 (by omega) (by decide)
 have hb := build_nil
 rw [count0] at hc
 rw [read0] at hr
 generalize (readP pack0 12).1 = e at *
 generalize pack0 = s at *
 simp (disch := omega) only [go_sem, simprocAttr]
 refine call_ro hb rfl rfl ?_
 simp (disch := omega) only [go_sem, simprocAttr]
 refine call_ro hc rfl rfl ?_
 simp (disch := omega) only [go_sem, simprocAttr]
 refine call_ro hr rfl rfl ?_
 simp (disch := omega) only [go_sem, simprocAttr, enL]
 (repeat (first | refine gskip_of ?_ | refine gcskip_of ?_ | refine gopen_of ?_) <;> simp (disch := omega) only [go_sem, simprocAttr, hll, ht])
 exact hR.ro ⟨rfl, rfl⟩
end Go.Proofs.YtjoefngnjoofeaaDoor.Pk
