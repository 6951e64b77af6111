/- Hexadecimal text: the program's and the document's. -/
import Derived.Test.YtlnplfjcnncakaaDoorShSum
set_option linter.all false
namespace Go.Proofs.YtlnplfjcnncakaaDoor.Sh
open Eng
set_option maxRecDepth 10000
theorem hexOf_snoc (t : Bs) (b : UInt8) : hexOf (t ++ [b]) = hexOf t ++ hexB b := by simp [hexOf]
theorem u8_hi (b : UInt8) : (b.toNat : Int).fdiv (2 ^ 4) = ((b.toNat / 16 : Nat) : Int) := by
  rw [shrN, Nat.shiftRight_eq_div_pow]
theorem u8_lo (b : UInt8) : bits .and .u8 (b.toNat : Int) 15 = ((b.toNat % 16 : Nat) : Int) := by
  show IntKind.u8.wrap ((BitVec.ofInt 8 (b.toNat : Int) &&& BitVec.ofInt 8 15).toNat : Int) = _
  have hb := b.toNat_lt
  rw [BitVec.ofInt_natCast, BitVec.toNat_and, BitVec.toNat_ofNat, Nat.mod_eq_of_lt (by omega), show (BitVec.ofInt 8 15).toNat = 2 ^ 4 - 1 by decide, Nat.and_two_pow_sub_one_eq_mod]
  exact wrap_u8 (by omega)
theorem hex_ok (t : Bs) (ht : t.length ≤ 1000000) : SpecR Tryd.prog 25 [.str t] (.str (hexOf t)) := by
  refine Cod.hex_spec (fun E R hN hR => ?_)
  simp (disch := first | omega | (simp only [List.length_append, List.length_cons, List.length_nil, List.length_set, List.length_map, List.length_take, List.length_drop, List.length_range, List.length_replicate, List.length_reverse]; omega)) only [go_sem, Nat.reduceBEq, Nat.reduceAdd, Nat.reduceSub, Nat.reduceMul, Nat.reduceLT, Nat.reduceLeDiff, Nat.reduceEqDiff, Int.reduceAdd, Int.reduceSub, Int.reduceMul, Int.reduceNeg, Int.reduceLT, Int.reduceLE, Int.reduceEq, Int.reduceToNat, UInt8.reduceOfNat, reduceCtorEq]
  refine vcW_loop hN (fun k : Nat => ⟨[(0, .str t), (3, .sl 110022 0 (2 * k)), (6, .int .i64 t.length), (7, .int .i64 k)], [(110022, .arr 1 ((hexOf (t.take k)).map ub))]⟩) (fun k => k ≤ t.length) (fun k => t.length - k) 0 (.nil 3 110022 1 rfl (.le (by simp (disch := first | omega | (simp only [List.length_append, List.length_cons, List.length_nil, List.length_set, List.length_map, List.length_take, List.length_drop, List.length_range, List.length_replicate, List.length_reverse]; omega)) only [go_sem, Nat.reduceBEq, Nat.reduceAdd, Nat.reduceSub, Nat.reduceMul, Nat.reduceLT, Nat.reduceLeDiff, Nat.reduceEqDiff, Int.reduceAdd, Int.reduceSub, Int.reduceMul, Int.reduceNeg, Int.reduceLT, Int.reduceLE, Int.reduceEq, Int.reduceToNat, UInt8.reduceOfNat, reduceCtorEq]; rfl))) (by omega) ?_
  rintro k R1 hk hR1
  have hhl : (hexOf (t.take k)).length = 2 * k := by rw [hex_len, List.length_take]; omega
  by_cases hlt : k < t.length
  · have htk : hexOf (t.take (k + 1)) = hexOf (t.take k) ++ hexB (t.getD k 0) := by rw [take_succU t hlt, hexOf_snoc]
    generalize hb : t.getD k 0 = b at *
    have hb1 := b.toNat_lt
    simp (disch := first | omega | (simp only [List.length_append, List.length_cons, List.length_nil, List.length_set, List.length_map, List.length_take, List.length_drop, List.length_range, List.length_replicate, List.length_reverse]; omega)) only [go_sem, Nat.reduceBEq, Nat.reduceAdd, Nat.reduceSub, Nat.reduceMul, Nat.reduceLT, Nat.reduceLeDiff, Nat.reduceEqDiff, Int.reduceAdd, Int.reduceSub, Int.reduceMul, Int.reduceNeg, Int.reduceLT, Int.reduceLE, Int.reduceEq, Int.reduceToNat, UInt8.reduceOfNat, reduceCtorEq, hb, show min 4 8 = 4 from rfl, u8_hi, u8_lo]
    refine hR1 (k + 1) _ (by omega) (by omega) (.le ?_)
    rw [htk, show 2 * (k + 1) = 2 * k + 2 by omega]
    simp (disch := first | omega | (simp only [List.length_append, List.length_cons, List.length_nil, List.length_set, List.length_map, List.length_take, List.length_drop, List.length_range, List.length_replicate, List.length_reverse]; omega)) only [go_sem, Nat.reduceBEq, Nat.reduceAdd, Nat.reduceSub, Nat.reduceMul, Nat.reduceLT, Nat.reduceLeDiff, Nat.reduceEqDiff, Int.reduceAdd, Int.reduceSub, Int.reduceMul, Int.reduceNeg, Int.reduceLT, Int.reduceLE, Int.reduceEq, Int.reduceToNat, UInt8.reduceOfNat, reduceCtorEq]
    rw [List.map_append]; rfl
  · obtain rfl : k = t.length := by omega
    rw [List.take_of_length_le (by omega)] at hhl ⊢
    simp (disch := first | omega | (simp only [List.length_append, List.length_cons, List.length_nil, List.length_set, List.length_map, List.length_take, List.length_drop, List.length_range, List.length_replicate, List.length_reverse]; omega)) only [go_sem, Nat.reduceBEq, Nat.reduceAdd, Nat.reduceSub, Nat.reduceMul, Nat.reduceLT, Nat.reduceLeDiff, Nat.reduceEqDiff, Int.reduceAdd, Int.reduceSub, Int.reduceMul, Int.reduceNeg, Int.reduceLT, Int.reduceLE, Int.reduceEq, Int.reduceToNat, UInt8.reduceOfNat, reduceCtorEq]
    exact hR.wk (h' := []) (r' := .str (hexOf t)) (ar' := [.undef]) rfl (.le (by simp (disch := first | omega | (simp only [List.length_append, List.length_cons, List.length_nil, List.length_set, List.length_map, List.length_take, List.length_drop, List.length_range, List.length_replicate, List.length_reverse]; omega)) only [go_sem, Nat.reduceBEq, Nat.reduceAdd, Nat.reduceSub, Nat.reduceMul, Nat.reduceLT, Nat.reduceLeDiff, Nat.reduceEqDiff, Int.reduceAdd, Int.reduceSub, Int.reduceMul, Int.reduceNeg, Int.reduceLT, Int.reduceLE, Int.reduceEq, Int.reduceToNat, UInt8.reduceOfNat, reduceCtorEq])) ⟨rfl, rfl⟩
end Go.Proofs.YtlnplfjcnncakaaDoor.Sh
