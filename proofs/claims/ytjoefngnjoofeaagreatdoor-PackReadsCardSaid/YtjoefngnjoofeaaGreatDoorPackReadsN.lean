/- The proof, part 14 of 23. -/
import Derived.Test.YtjoefngnjoofeaaGreatDoorPackReadsJ
import Derived.Test.YtjoefngnjoofeaaGreatDoorProg
import Derived.KernelRfl
import Derived.Tactics
set_option linter.all false
namespace Go.Proofs.YtjoefngnjoofeaaGreatDoor.Pk
open Eng Eng.Kz
set_option maxRecDepth 100000
def wrongP (e : Nat) : Value := .iface 61 (.int .i64 (e : Nat))
theorem two_of {vs : Array Value} (h : vs.size = 2) : ∃ v0 v1, vs = #[v0, v1] := by
 obtain ⟨l⟩ := vs
 match l, h with
 | [a, b], _ => exact ⟨a, b, rfl⟩
theorem pguard_idle : IdleD Tryz.prog 23 2 := by
 intro vs w hvs
 obtain ⟨v0, v1, rfl⟩ := two_of hvs
 refine callsDIn_of_wpSIn Tryz.func23 rfl trivial fun c₀ cs hu => ?_
 apply wpSIn_seq
 apply wpSIn_region
 simp [wpOpsSIn, go_sem, recoverD, hu, Tryz.ntmps23, Exit.thenS]
 refine wpSIn_of_wpIn rfl ?_
 refine wpIn_seq ?_
 refine wpIn_region ?_
 simp [wpOpsIn, Oper.wpIn, Oper.uponIn, Oper.semAt_none, go_sem, Region.wanted, Exit.then]
 refine wpIn_cond_false (by simp [Act.eval, Array.replicate]) ?_
 refine wpIn_skip ?_
 simp [bodyPostS, results, Tryz.results23]
 exact hu.symm ▸ rfl
def zeroC : List AV := [.int .i64 0, .int .i64 0, .int .i64 0, .str [], .int .i64 0, .str [], .int .u32 0]
def zeroV : Value := .agg #[.int .i64 0, .int .i64 0, .int .i64 0, .string ⟨#[]⟩, .int .i64 0, .string ⟨#[]⟩, .int .u32 0]
theorem zeroRV (X : Nat → Prop) (w : World) (ρ : Eng.Loc) : RV X w ρ zeroV (.agg zeroC) := by
 refine .agg _ _ _ rfl (fun j v a h1 h2 => ?_)
 have hj : j < 7 := (List.getElem?_eq_some_iff.1 h2).1
 obtain rfl | rfl | rfl | rfl | rfl | rfl | rfl : j = 0 ∨ j = 1 ∨ j = 2 ∨ j = 3 ∨ j = 4 ∨ j = 5 ∨ j = 6 := by omega
 all_goals
  simp [zeroC] at h1 h2
  subst h1 h2
  first | exact .int _ _ _ | exact .str _ []
theorem run_ta (x : Value) (t0 : TypeId) (w : World) : (Instr.typeAssert (.iface 61 x) t0 61 true).run Tryz.prog w = .ok (.tuple #[x, .bool true]) w := by
 have hu : (underlying 61).run Tryz.prog w = .ok (.int .i64) w := by rfl
 unfold Instr.typeAssert
 simp [go_sem, hu]
theorem ent_sz : szOf Tryz.prog 30 = some 7 := by kernel_rfl
theorem errno_sz : szOf Tryz.prog 23 = some 1 := by kernel_rfl
theorem hzb (w : World) : (Instr.build 30 #[]).run Tryz.prog w = .ok zeroV w := by kernel_rfl
theorem rstep {P : Program} {o : Oper} {a : Act} {w w' : World} {v : Value} {next : Act → World → Prop} {Q : Exit → Act → World → Prop} (h : (execOp a.eval o).run P w = .ok (.value v) w') (hn : next (a.put o.dst v) w') :
    Oper.uponIn Fence.wide 0 P o a next Q ((o.semAt Fence.wide.round a.eval).run P w) := by
 rw [show Fence.wide.round = none from rfl, Oper.semAt_none, h]
 exact hn
theorem rstepS {P : Program} {o : Oper} {a : Act} {w w' : World} {next : Act → World → Prop} {Q : Exit → Act → World → Prop} (h : (execOp a.eval o).run P w = .ok .skip w') (hn : next (a.put o.dst undef) w') :
    Oper.uponIn Fence.wide 0 P o a next Q ((o.semAt Fence.wide.round a.eval).run P w) := by
 rw [show Fence.wide.round = none from rfl, Oper.semAt_none, h]
 exact hn
theorem pguard_rec (e : Nat) (i0 i1 : Nat) (cs0 : List AV) (x1 : AV) (hi : i0 ≠ i1) (hc0 : cs0.length = 7) :
    SpecD Tryz.prog 23 [(i0, .var cs0), (i1, .var [x1])] [.vptr i0 0, .vptr i1 0] (wrongP e) [(i1, .var [.int .i64 (e : Nat)]), (i0, .var zeroC)] := by
 intro X0 ρ w vs hh hA hX hvs hrv
 obtain ⟨v0, v1, rfl⟩ := two_of hvs
 have hnt : Tryz.f23.ntmps = 12 := Tryz.ntmps23
 generalize hh0 : ([(i0, .var cs0), (i1, .var [x1])] : HP) = h at *
 let E0 : Env := ⟨w, OwnB ρ h, X0, Tryz.f23.ntmps, 0, fun k => #[v0, v1].getD (k - 2000000) undef, none, w.heap.size, Nat.le_refl _, []⟩
 have g0 : RelAt E0 ρ ⟨startS [.vptr i0 0, .vptr i1 0], h⟩ { tmps := #[v0, v1] ++ Array.replicate (Tryz.f23.ntmps - #[v0, v1].size) undef, defers := [] } w := start_rel (B := 0) (by rw [hnt]; decide) (by rw [hnt]; exact (by decide : 2 ≤ 12)) hh hA hX hvs hrv [] rfl
 have hE : ∀ d, d < 12 → d < E0.N := fun d hd => by show d < Tryz.f23.ntmps; rw [hnt]; exact hd
 have g1 := (((((g0.put 5 (hE 5 (by decide)) (v := wrongP e) (av := .undef) (.undef _ _)).put 6 (hE 6 (by decide)) (v := .tuple #[.int .i64 (e : Nat), .bool true]) (av := .undef) (.undef _ _)).put 4 (hE 4 (by decide)) (v := .tuple #[.int .i64 (e : Nat), .bool true]) (av := .undef) (.undef _ _)).put 7 (hE 7 (by decide)) (v := .int .i64 (e : Nat)) (av := .int .i64 (e : Nat)) (.int _ _ _)).put 8 (hE 8 (by decide)) (v := .bool true) (av := .bool true) (.bool _ _)).put 2 (hE 2 (by decide)) (v := .int .i64 (e : Nat)) (av := .int .i64 (e : Nat)) (.int _ _ _)
 have g2 := g1.put 3 (hE 3 (by decide)) (v := .bool true) (av := .bool true) (.bool _ _)
 have g3 := g2.put 9 (hE 9 (by decide)) (v := .bool true) (av := .bool true) (.bool _ _)
 have g4 := (g3.put 10 (hE 10 (by decide)) (v := zeroV) (av := .agg zeroC) (zeroRV _ _ _)).put 11 (hE 11 (by decide)) (v := .int .i64 (e : Nat)) (av := .int .i64 (e : Nat)) (.int _ _ _)
 have b3 := evalRV g2 (.tmp 3)
 have b9 := evalRV g3 (.tmp 9)
 have b2 := evalRV g3 (.tmp 2)
 clear g0 g1 g2 g3
 generalize hac : (((((((((({ tmps := #[v0, v1] ++ Array.replicate (Tryz.f23.ntmps - #[v0, v1].size) undef, defers := [] } : Act).put (some 5) (wrongP e)).put (some 6) (.tuple #[.int .i64 (e : Nat), .bool true])).put (some 4) (.tuple #[.int .i64 (e : Nat), .bool true])).put (some 7) (.int .i64 (e : Nat))).put (some 8) (.bool true)).put (some 2) (.int .i64 (e : Nat))).put (some 3) (.bool true)).put (some 9) (.bool true)).put (some 10) zeroV).put (some 11) (.int .i64 (e : Nat)) = ac at g4
 have had : ac.defers = [] := by rw [← hac]; rfl
 have fin : ∃ w1 w2, (Instr.storeAt 30 (ac.eval (.tmp 0)) (ac.eval (.tmp 10))).run Tryz.prog w = .ok () w1 ∧ (Instr.storeAt 23 (ac.eval (.tmp 1)) (ac.eval (.tmp 11))).run Tryz.prog w1 = .ok () w2 ∧
     ∃ ρ' st', RelAt E0 ρ' st' ac w2 ∧ st'.h = [(i1, .var [.int .i64 (e : Nat)]), (i0, .var zeroC)] ∧ sget st'.s 2000000 = some (.vptr i0 0) ∧ sget st'.s 2000001 = some (.vptr i1 0) := by
  subst hh0
  have g4 := g4.weaken (st' := ⟨[(0, .vptr i0 0), (1, .vptr i1 0), (10, .agg zeroC), (11, .int .i64 (e : Nat)), (2000000, .vptr i0 0), (2000001, .vptr i1 0)], [(i0, .var cs0), (i1, .var [x1])]⟩) (by exact ⟨rfl, rfl, rfl, rfl, rfl, rfl, trivial⟩) (by simp [leH, hget, hi, hi.symm])
  have hx0 := evalRV g4 (.tmp 0)
  have hx10 := evalRV g4 (.tmp 10)
  obtain ⟨w1, ρ1, st1, r1, g5, K⟩ := effSt_sound g4 ent_sz hx0 hx10 (K := fun _ st1 => st1 = ⟨[(0, .vptr i0 0), (1, .vptr i1 0), (10, .agg zeroC), (11, .int .i64 (e : Nat)), (2000000, .vptr i0 0), (2000001, .vptr i1 0)], [(i0, .var zeroC), (i1, .var [x1])]⟩) (by
   simp [effSt, hget, hset, hdel, hc0, hi, hi.symm, seg, zeroC, cellsOK, cellsOf, isCell, ev, trE, sget])
  subst K
  have hx1 := evalRV g5 (.tmp 1)
  have hx11 := evalRV g5 (.tmp 11)
  obtain ⟨w2, ρ2, st2, r2, g6, K⟩ := effSt_sound g5 errno_sz hx1 hx11 (K := fun _ st1 => st1 = ⟨[(0, .vptr i0 0), (1, .vptr i1 0), (10, .agg zeroC), (11, .int .i64 (e : Nat)), (2000000, .vptr i0 0), (2000001, .vptr i1 0)], [(i1, .var [.int .i64 (e : Nat)]), (i0, .var zeroC)]⟩) (by
   simp [effSt, hget, hset, hdel, hi, hi.symm, seg, cellsOK, cellsOf, isCell, ev, trE, sget])
  subst K
  exact ⟨w1, w2, r1, r2, ρ2, _, g6, rfl, rfl, rfl⟩
 obtain ⟨w1, w2, r1, r2, ρ2, st2, g6, e1, e2, e3⟩ := fin
 clear g4
 refine callsDIn_of_wpSIn Tryz.func23 rfl trivial fun c₀ cs hu => ?_
 apply wpSIn_seq
 apply wpSIn_region
 simp [wpOpsSIn, go_sem, recoverD, hu, pan, wrongP, Tryz.ntmps23, Exit.thenS, run_ta]
 refine wpSIn_of_wpIn rfl ?_
 refine wpIn_seq ?_
 refine wpIn_region ?_
 simp [wpOpsIn, Oper.wpIn, Oper.uponIn, Oper.semAt_none, go_sem, Region.wanted, Exit.then]
 refine wpIn_cond_true (by simp [Act.eval, Array.replicate]) ?_
 refine Eq.mpr (congrArg (fun a => Code.wpIn Fence.wide 0 Tryz.prog _ _ a w) (a₂ := (((((((({ tmps := #[v0, v1] ++ Array.replicate (Tryz.f23.ntmps - #[v0, v1].size) undef, defers := [] } : Act).put (some 5) (wrongP e)).put (some 6) (.tuple #[.int .i64 (e : Nat), .bool true])).put (some 4) (.tuple #[.int .i64 (e : Nat), .bool true])).put (some 7) (.int .i64 (e : Nat))).put (some 8) (.bool true)).put (some 2) (.int .i64 (e : Nat))).put (some 3) (.bool true)).put (some 9) (.bool true)) ?_) ?_
 ·simp [Act.put, hnt, wrongP]
 refine wpIn_region_list (wpListIn_plain rfl (fun next hnext => ⟨fun _ _ => trivial, ?_⟩))
 refine rstep (v := zeroV) (w' := w) (by simp [execOp, hzb]) (hnext _ _ ?_)
 refine wpListIn_plain rfl (fun next hnext => ⟨fun _ _ => trivial, ?_⟩)
 refine rstep (v := .int .i64 (e : Nat)) (w' := w) (by simp [execOp, Act.eval, Act.put, hnt]) (hnext _ _ ?_)
 refine wpListIn_plain rfl (fun next hnext => ⟨fun _ _ => trivial, ?_⟩)
 rw [hac]
 refine rstepS (w' := w1) (by simp [execOp, r1]) (hnext _ _ ?_)
 refine wpListIn_plain rfl (fun next hnext => ⟨fun _ _ => trivial, ?_⟩)
 refine rstepS (w' := w2) (by simp only [Act.put]; simp [execOp, r2]) (hnext _ _ ?_)
 refine ⟨had, _, rfl, .tuple #[], by simp [results, Tryz.results23], ⟨_, rfl⟩, rfl, ρ2, ?_, ?_, g6.frm.os, g6.frm.tape, g6.frm.output, g6.frm.size, g6.frm.block, ?_⟩
 ·have := g6.heap
  rw [e1] at this
  exact this
 ·intro j v x h1 h2
  have hj : j < 2 := (List.getElem?_eq_some_iff.1 h2).1
  have hgv : ∀ k, 2000000 ≤ k → sval E0 ac k = E0.gv k := fun k hk => by
   unfold sval
   rw [if_neg (by show ¬ k < Tryz.f23.ntmps; rw [hnt]; omega)]
  obtain rfl | rfl : j = 0 ∨ j = 1 := by omega
  ·obtain rfl : v0 = v := by simpa using h1
   obtain rfl : AV.vptr i0 0 = x := by simpa using h2
   have hr := (g6.slots _ _ e2).2
   rw [hgv _ (Nat.le_refl _), e1] at hr
   exact hr
  ·obtain rfl : v1 = v := by simpa using h1
   obtain rfl : AV.vptr i1 0 = x := by simpa using h2
   have hr := (g6.slots _ _ e3).2
   rw [hgv _ (Nat.le_succ _), e1] at hr
   exact hr
 ·rintro b ⟨id, W, L, h1, h2, h3⟩
  rw [← e1] at h1
  exact g6.base id W L b h1 h2 h3
end Go.Proofs.YtjoefngnjoofeaaGreatDoor.Pk
