/- SHA-1: the program's write. -/
import Derived.Test.YtlnplfjcnncakaaDoorShBlk
import Derived.KernelRfl
set_option linter.all false
namespace Go.Proofs.YtlnplfjcnncakaaDoor.Sh
open Eng
set_option maxRecDepth 10000
abbrev FN : AV := .lit (.func (.func 49) #[] #[])
theorem block1_callable : callable Tryd.prog 49 = true := by kernel_rfl
theorem write_rest (h : H5) (r t : Bs) (n : Nat) (ht : r.length + t.length ≤ 9223372036854775807) (hn : n + t.length ≤ 9223372036854775807) {E : Env} {R : HP → AV → List AV → Prop} (hN : E.N ≤ 1000000)
    (hR : PostTo (fun h' v ar => h' = hashH (blks ((r ++ t).length / 64) h (r ++ t)) ((r ++ t).drop (64 * ((r ++ t).length / 64))) ((n : Int) + t.length) ∧ v = .tup [] ∧ ar = [.vptr 105900 0, .str t, .undef, FN]) R) :
    vcW Tryd.prog E Cod.hwrite_1 (KQ.post [] 4 R) ⟨[(0, .vptr 105900 0), (1, .str t), (3, FN), (2000000, .vptr 105900 0), (2000001, .str t), (2000003, FN)], hashH h r n⟩ := by
  have en : IntKind.u64.wrap ((n : Int) + (t.length : Int)) = (n : Int) + t.length := wrap_u64 (by omega)
  simp (disch := first | omega | (simp only [List.length_append, List.length_cons, List.length_nil, List.length_set, List.length_map, List.length_take, List.length_drop, List.length_range, List.length_replicate, List.length_reverse]; omega)) only [go_sem, Nat.reduceBEq, Nat.reduceAdd, Nat.reduceSub, Nat.reduceMul, Nat.reduceLT, Nat.reduceLeDiff, Nat.reduceEqDiff, Int.reduceAdd, Int.reduceSub, Int.reduceMul, Int.reduceNeg, Int.reduceLT, Int.reduceLE, Int.reduceEq, Int.reduceToNat, UInt8.reduceOfNat, reduceCtorEq, hashH, hW, en]
  have hl : (r ++ t).length ≤ 9223372036854775807 := by simp; omega
  generalize hs : r ++ t = s at *
  refine vcW_loop hN (fun j : Nat => ⟨[(0, .vptr 105900 0), (1, .str (s.drop (64 * j))), (3, FN), (2000000, .vptr 105900 0), (2000001, .str t), (2000003, FN)], hashH (blks j h s) r ((n : Int) + t.length)⟩) (fun j => 64 * j ≤ s.length) (fun j => s.length - 64 * j) 0 (.le (by simp (disch := first | omega | (simp only [List.length_append, List.length_cons, List.length_nil, List.length_set, List.length_map, List.length_take, List.length_drop, List.length_range, List.length_replicate, List.length_reverse]; omega)) only [go_sem, Nat.reduceBEq, Nat.reduceAdd, Nat.reduceSub, Nat.reduceMul, Nat.reduceLT, Nat.reduceLeDiff, Nat.reduceEqDiff, Int.reduceAdd, Int.reduceSub, Int.reduceMul, Int.reduceNeg, Int.reduceLT, Int.reduceLE, Int.reduceEq, Int.reduceToNat, UInt8.reduceOfNat, reduceCtorEq, hashH, hW, blks])) (by omega) ?_
  rintro j R1 hj hR1
  by_cases hlt : 64 ≤ (s.drop (64 * j)).length
  · have hlt' := hlt
    rw [List.length_drop] at hlt'
    have hbo := blks_one j h s
    generalize hH : blks j h s = H at *
    generalize hu : s.drop (64 * j) = u at *
    have hb := block1_ok H (u.take 64) r ((n : Int) + t.length) (by rw [List.length_take]; omega)
    simp (disch := first | omega | (simp only [List.length_append, List.length_cons, List.length_nil, List.length_set, List.length_map, List.length_take, List.length_drop, List.length_range, List.length_replicate, List.length_reverse]; omega)) only [go_sem, Nat.reduceBEq, Nat.reduceAdd, Nat.reduceSub, Nat.reduceMul, Nat.reduceLT, Nat.reduceLeDiff, Nat.reduceEqDiff, Int.reduceAdd, Int.reduceSub, Int.reduceMul, Int.reduceNeg, Int.reduceLT, Int.reduceLE, Int.reduceEq, Int.reduceToNat, UInt8.reduceOfNat, reduceCtorEq, hashH, hW]
    refine dyn_to block1_callable (call_all (n := 2) [0, 2000000] (by simp (disch := first | omega | (simp only [List.length_append, List.length_cons, List.length_nil, List.length_set, List.length_map, List.length_take, List.length_drop, List.length_range, List.length_replicate, List.length_reverse]; omega)) only [go_sem, Nat.reduceBEq, Nat.reduceAdd, Nat.reduceSub, Nat.reduceMul, Nat.reduceLT, Nat.reduceLeDiff, Nat.reduceEqDiff, Int.reduceAdd, Int.reduceSub, Int.reduceMul, Int.reduceNeg, Int.reduceLT, Int.reduceLE, Int.reduceEq, Int.reduceToNat, UInt8.reduceOfNat, reduceCtorEq]) (by simp (disch := first | omega | (simp only [List.length_append, List.length_cons, List.length_nil, List.length_set, List.length_map, List.length_take, List.length_drop, List.length_range, List.length_replicate, List.length_reverse]; omega)) only [go_sem, Nat.reduceBEq, Nat.reduceAdd, Nat.reduceSub, Nat.reduceMul, Nat.reduceLT, Nat.reduceLeDiff, Nat.reduceEqDiff, Int.reduceAdd, Int.reduceSub, Int.reduceMul, Int.reduceNeg, Int.reduceLT, Int.reduceLE, Int.reduceEq, Int.reduceToNat, UInt8.reduceOfNat, reduceCtorEq]) rfl hb ?_)
    rintro h' v as' ⟨rfl, rfl, rfl⟩
    simp (disch := first | omega | (simp only [List.length_append, List.length_cons, List.length_nil, List.length_set, List.length_map, List.length_take, List.length_drop, List.length_range, List.length_replicate, List.length_reverse]; omega)) only [go_sem, Nat.reduceBEq, Nat.reduceAdd, Nat.reduceSub, Nat.reduceMul, Nat.reduceLT, Nat.reduceLeDiff, Nat.reduceEqDiff, Int.reduceAdd, Int.reduceSub, Int.reduceMul, Int.reduceNeg, Int.reduceLT, Int.reduceLE, Int.reduceEq, Int.reduceToNat, UInt8.reduceOfNat, reduceCtorEq, hashH, hW]
    refine hR1 (j + 1) _ (by omega) (by omega) (.le ?_)
    have hd : s.drop (64 * (j + 1)) = u.drop 64 := by rw [← hu, List.drop_drop]; rfl
    rw [hbo, hd]
    simp (disch := first | omega | (simp only [List.length_append, List.length_cons, List.length_nil, List.length_set, List.length_map, List.length_take, List.length_drop, List.length_range, List.length_replicate, List.length_reverse]; omega)) only [go_sem, Nat.reduceBEq, Nat.reduceAdd, Nat.reduceSub, Nat.reduceMul, Nat.reduceLT, Nat.reduceLeDiff, Nat.reduceEqDiff, Int.reduceAdd, Int.reduceSub, Int.reduceMul, Int.reduceNeg, Int.reduceLT, Int.reduceLE, Int.reduceEq, Int.reduceToNat, UInt8.reduceOfNat, reduceCtorEq, hashH, hW]
  · have hq : j = s.length / 64 := by rw [List.length_drop] at hlt; omega
    simp (disch := first | omega | (simp only [List.length_append, List.length_cons, List.length_nil, List.length_set, List.length_map, List.length_take, List.length_drop, List.length_range, List.length_replicate, List.length_reverse]; omega)) only [go_sem, Nat.reduceBEq, Nat.reduceAdd, Nat.reduceSub, Nat.reduceMul, Nat.reduceLT, Nat.reduceLeDiff, Nat.reduceEqDiff, Int.reduceAdd, Int.reduceSub, Int.reduceMul, Int.reduceNeg, Int.reduceLT, Int.reduceLE, Int.reduceEq, Int.reduceToNat, UInt8.reduceOfNat, reduceCtorEq, hashH, hW]
    refine hR.le ?_ ⟨rfl, rfl, rfl⟩
    rw [← hq]
    simp (disch := first | omega | (simp only [List.length_append, List.length_cons, List.length_nil, List.length_set, List.length_map, List.length_take, List.length_drop, List.length_range, List.length_replicate, List.length_reverse]; omega)) only [go_sem, Nat.reduceBEq, Nat.reduceAdd, Nat.reduceSub, Nat.reduceMul, Nat.reduceLT, Nat.reduceLeDiff, Nat.reduceEqDiff, Int.reduceAdd, Int.reduceSub, Int.reduceMul, Int.reduceNeg, Int.reduceLT, Int.reduceLE, Int.reduceEq, Int.reduceToNat, UInt8.reduceOfNat, reduceCtorEq, hashH, hW]
theorem write_nil (t : Bs) (ht : t.length ≤ 9223372036854775807) : Eng.Spec Tryd.prog 47 [(105900, .var [.nilsl, .str [], .int .u64 0])] [.vptr 105900 0, .str t, .ro 1 (hW start), FN]
    (fun h' v ar => h' = hashH (blks (t.length / 64) start t) (t.drop (64 * (t.length / 64))) t.length ∧ v = .tup [] ∧ ar = [.vptr 105900 0, .str t, .undef, FN]) := by
  refine Cod.hwrite_spec (fun E R hN hR => ?_)
  simp (disch := first | omega | (simp only [List.length_append, List.length_cons, List.length_nil, List.length_set, List.length_map, List.length_take, List.length_drop, List.length_range, List.length_replicate, List.length_reverse]; omega)) only [go_sem, Nat.reduceBEq, Nat.reduceAdd, Nat.reduceSub, Nat.reduceMul, Nat.reduceLT, Nat.reduceLeDiff, Nat.reduceEqDiff, Int.reduceAdd, Int.reduceSub, Int.reduceMul, Int.reduceNeg, Int.reduceLT, Int.reduceLE, Int.reduceEq, Int.reduceToNat, UInt8.reduceOfNat, reduceCtorEq, Cod.hwrite_jn, hW]
  refine vcW_mid_wk hN _ (.le (by simp (disch := first | omega | (simp only [List.length_append, List.length_cons, List.length_nil, List.length_set, List.length_map, List.length_take, List.length_drop, List.length_range, List.length_replicate, List.length_reverse]; omega)) only [go_sem, Nat.reduceBEq, Nat.reduceAdd, Nat.reduceSub, Nat.reduceMul, Nat.reduceLT, Nat.reduceLeDiff, Nat.reduceEqDiff, Int.reduceAdd, Int.reduceSub, Int.reduceMul, Int.reduceNeg, Int.reduceLT, Int.reduceLE, Int.reduceEq, Int.reduceToNat, UInt8.reduceOfNat, reduceCtorEq, hashH, hW])) (write_rest start [] t 0 (by simpa using ht) (by omega) hN ?_)
  intro h' v ar h2 v2 ar2 e1 e2 e3
  refine hR h' v ar h2 v2 ar2 e1 e2 ?_
  simpa using e3
theorem write_on (h : H5) (r t : Bs) (n : Nat) (hr : r.length + t.length ≤ 9223372036854775807) (hn : n + t.length ≤ 9223372036854775807) : Eng.Spec Tryd.prog 47 (hashH h r n) [.vptr 105900 0, .str t, .ro 1 (hW start), FN]
    (fun h' v ar => h' = hashH (blks ((r ++ t).length / 64) h (r ++ t)) ((r ++ t).drop (64 * ((r ++ t).length / 64))) ((n : Int) + t.length) ∧ v = .tup [] ∧ ar = [.vptr 105900 0, .str t, .undef, FN]) := by
  refine Cod.hwrite_spec (fun E R hN hR => ?_)
  simp (disch := first | omega | (simp only [List.length_append, List.length_cons, List.length_nil, List.length_set, List.length_map, List.length_take, List.length_drop, List.length_range, List.length_replicate, List.length_reverse]; omega)) only [go_sem, Nat.reduceBEq, Nat.reduceAdd, Nat.reduceSub, Nat.reduceMul, Nat.reduceLT, Nat.reduceLeDiff, Nat.reduceEqDiff, Int.reduceAdd, Int.reduceSub, Int.reduceMul, Int.reduceNeg, Int.reduceLT, Int.reduceLE, Int.reduceEq, Int.reduceToNat, UInt8.reduceOfNat, reduceCtorEq, Cod.hwrite_jn, hW]
  refine vcW_mid_wk hN _ (.le (by simp (disch := first | omega | (simp only [List.length_append, List.length_cons, List.length_nil, List.length_set, List.length_map, List.length_take, List.length_drop, List.length_range, List.length_replicate, List.length_reverse]; omega)) only [go_sem, Nat.reduceBEq, Nat.reduceAdd, Nat.reduceSub, Nat.reduceMul, Nat.reduceLT, Nat.reduceLeDiff, Nat.reduceEqDiff, Int.reduceAdd, Int.reduceSub, Int.reduceMul, Int.reduceNeg, Int.reduceLT, Int.reduceLE, Int.reduceEq, Int.reduceToNat, UInt8.reduceOfNat, reduceCtorEq, hashH, hW])) (write_rest h r t n hr hn hN hR)
end Go.Proofs.YtlnplfjcnncakaaDoor.Sh
