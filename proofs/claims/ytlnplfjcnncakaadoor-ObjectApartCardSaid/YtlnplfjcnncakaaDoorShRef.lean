/- SHA-1 and hexadecimal text, the document's. -/
import Derived.Test.YtlnplfjcnncakaaDoorShHex
set_option linter.all false
namespace Go.Proofs.YtlnplfjcnncakaaDoor.Sh
open Eng
set_option maxRecDepth 10000
theorem rturn_ok (x : W) (k : Nat) (hk : k < 32) : SpecR Tryd.prog 39 [.int .u32 x.toNat, .int .i64 k] (.int .u32 (x.rotateLeft k).toNat) := by
  refine Cod.rturn_spec (fun E R hN hR => ?_)
  simp (disch := first | omega | (simp only [List.length_append, List.length_cons, List.length_nil, List.length_set, List.length_map, List.length_take, List.length_drop, List.length_range, List.length_replicate, List.length_reverse]; omega)) only [go_sem, Nat.reduceBEq, Nat.reduceAdd, Nat.reduceSub, Nat.reduceMul, Nat.reduceLT, Nat.reduceLeDiff, Nat.reduceEqDiff, Int.reduceAdd, Int.reduceSub, Int.reduceMul, Int.reduceNeg, Int.reduceLT, Int.reduceLE, Int.reduceEq, Int.reduceToNat, UInt8.reduceOfNat, reduceCtorEq]
  refine hR.ro ⟨rfl, ?_⟩
  rw [show min k 32 = k by omega, show min ((32 : Int) - k).toNat 32 = 32 - k by omega, rot_or x hk]
/- BYTES BEHIND A TEXT -/
theorem pad_app (t : Bs) (k : Nat) : (t ++ 128 :: List.replicate k 0) ++ [0] = t ++ 128 :: List.replicate (k + 1) (0 : UInt8) := by
  rw [List.replicate_succ', List.append_assoc]; rfl
theorem lenB_get7 (n : Nat) {k : Nat} (hk : k < 8) : (lenB n).getD k 0 = UInt8.ofNat ((8 * n) >>> (8 * (7 - k))) := by
  rw [lenB_get n hk, show 56 - 8 * k = 8 * (7 - k) by omega]
theorem rpad_ok (t : Bs) (ht : t.length ≤ 1000000) : Eng.Spec Tryd.prog 37 [] [.str t]
    (fun h' v _ => h' = [(112007, .arr 1 ((t ++ tailOf t.length).map ub))] ∧ v = .sl 112007 0 (t.length + (tailOf t.length).length)) := by
  refine Cod.rpad_spec (fun E R hN hR => ?_)
  have hpk : padK t.length < 64 := by unfold padK; omega
  have hpad : ∀ k, k < padK t.length → ((t.length : Int) + 1 + k) % 64 ≠ 56 := by
    intro k hk
    unfold padK at hk
    omega
  have hpe : ((t.length : Int) + 1 + (padK t.length : Nat)) % 64 = 56 := by
    unfold padK
    omega
  simp (disch := first | omega | (simp only [List.length_append, List.length_cons, List.length_nil, List.length_set, List.length_map, List.length_take, List.length_drop, List.length_range, List.length_replicate, List.length_reverse]; omega)) only [go_sem, Nat.reduceBEq, Nat.reduceAdd, Nat.reduceSub, Nat.reduceMul, Nat.reduceLT, Nat.reduceLeDiff, Nat.reduceEqDiff, Int.reduceAdd, Int.reduceSub, Int.reduceMul, Int.reduceNeg, Int.reduceLT, Int.reduceLE, Int.reduceEq, Int.reduceToNat, UInt8.reduceOfNat, reduceCtorEq]
  refine vcW_loop hN (fun k : Nat => ⟨[(0, .str t), (3, .sl 112007 0 (t.length + 1 + k))], [(112007, .arr 1 ((t ++ 128 :: List.replicate k 0).map ub))]⟩) (fun k => k ≤ padK t.length) (fun k => padK t.length - k) 0 (.le (by simp (disch := first | omega | (simp only [List.length_append, List.length_cons, List.length_nil, List.length_set, List.length_map, List.length_take, List.length_drop, List.length_range, List.length_replicate, List.length_reverse]; omega)) only [go_sem, Nat.reduceBEq, Nat.reduceAdd, Nat.reduceSub, Nat.reduceMul, Nat.reduceLT, Nat.reduceLeDiff, Nat.reduceEqDiff, Int.reduceAdd, Int.reduceSub, Int.reduceMul, Int.reduceNeg, Int.reduceLT, Int.reduceLE, Int.reduceEq, Int.reduceToNat, UInt8.reduceOfNat, reduceCtorEq, List.replicate_zero])) (by omega) ?_
  rintro k R1 hk hR1
  by_cases hlt : k < padK t.length
  · have hc := hpad k hlt
    have ha := pad_app t k
    simp (disch := first | omega | (simp only [List.length_append, List.length_cons, List.length_nil, List.length_set, List.length_map, List.length_take, List.length_drop, List.length_range, List.length_replicate, List.length_reverse]; omega)) only [go_sem, Nat.reduceBEq, Nat.reduceAdd, Nat.reduceSub, Nat.reduceMul, Nat.reduceLT, Nat.reduceLeDiff, Nat.reduceEqDiff, Int.reduceAdd, Int.reduceSub, Int.reduceMul, Int.reduceNeg, Int.reduceLT, Int.reduceLE, Int.reduceEq, Int.reduceToNat, UInt8.reduceOfNat, reduceCtorEq, hc, List.length_replicate]
    refine hR1 (k + 1) _ (by omega) (by omega) (.le ?_)
    rw [← ha, show t.length + 1 + (k + 1) = t.length + 1 + k + 1 by omega]
    simp (disch := first | omega | (simp only [List.length_append, List.length_cons, List.length_nil, List.length_set, List.length_map, List.length_take, List.length_drop, List.length_range, List.length_replicate, List.length_reverse]; omega)) only [go_sem, Nat.reduceBEq, Nat.reduceAdd, Nat.reduceSub, Nat.reduceMul, Nat.reduceLT, Nat.reduceLeDiff, Nat.reduceEqDiff, Int.reduceAdd, Int.reduceSub, Int.reduceMul, Int.reduceNeg, Int.reduceLT, Int.reduceLE, Int.reduceEq, Int.reduceToNat, UInt8.reduceOfNat, reduceCtorEq]
  obtain rfl : k = padK t.length := by omega
  have en : IntKind.u64.wrap ((t.length : Int) * 8) = ((8 * t.length : Nat) : Int) := by rw [wrap_u64 (by omega)]; omega
  simp (disch := first | omega | (simp only [List.length_append, List.length_cons, List.length_nil, List.length_set, List.length_map, List.length_take, List.length_drop, List.length_range, List.length_replicate, List.length_reverse]; omega)) only [go_sem, Nat.reduceBEq, Nat.reduceAdd, Nat.reduceSub, Nat.reduceMul, Nat.reduceLT, Nat.reduceLeDiff, Nat.reduceEqDiff, Int.reduceAdd, Int.reduceSub, Int.reduceMul, Int.reduceNeg, Int.reduceLT, Int.reduceLE, Int.reduceEq, Int.reduceToNat, UInt8.reduceOfNat, reduceCtorEq, hpe, en]
  refine vcW_loop hN (fun j : Nat => ⟨[(3, .sl 112007 0 (t.length + 1 + padK t.length + j)), (4, .int .u64 ((8 * t.length : Nat) : Int)), (5, .int .i64 (7 - (j : Int)))], [(112007, .arr 1 ((t ++ 128 :: (List.replicate (padK t.length) 0 ++ (lenB t.length).take j)).map ub))]⟩)
    (fun j => j ≤ 8) (fun j => 8 - j) 0 (.le (by simp (disch := first | omega | (simp only [List.length_append, List.length_cons, List.length_nil, List.length_set, List.length_map, List.length_take, List.length_drop, List.length_range, List.length_replicate, List.length_reverse]; omega)) only [go_sem, Nat.reduceBEq, Nat.reduceAdd, Nat.reduceSub, Nat.reduceMul, Nat.reduceLT, Nat.reduceLeDiff, Nat.reduceEqDiff, Int.reduceAdd, Int.reduceSub, Int.reduceMul, Int.reduceNeg, Int.reduceLT, Int.reduceLE, Int.reduceEq, Int.reduceToNat, UInt8.reduceOfNat, reduceCtorEq, List.append_nil])) (by omega) ?_
  rintro j R2 hj hR2
  have hll : ((lenB t.length).take j).length = j := by rw [List.length_take]; simp [lenB]; omega
  by_cases hlt : j < 8
  · have htk := take_succU (lenB t.length) (k := j) hlt
    rw [lenB_get7 t.length hlt] at htk
    have e1 : min (8 * (7 - (j : Int))).toNat 64 = 8 * (7 - j) := by omega
    have e4 : (7 : Int) - j - 1 = 7 - ((j + 1 : Nat) : Int) := by omega
    have e5 : (7 : Int) - j = ((7 - j : Nat) : Int) := by omega
    simp (disch := first | omega | (simp only [List.length_append, List.length_cons, List.length_nil, List.length_set, List.length_map, List.length_take, List.length_drop, List.length_range, List.length_replicate, List.length_reverse]; omega)) only [go_sem, Nat.reduceBEq, Nat.reduceAdd, Nat.reduceSub, Nat.reduceMul, Nat.reduceLT, Nat.reduceLeDiff, Nat.reduceEqDiff, Int.reduceAdd, Int.reduceSub, Int.reduceMul, Int.reduceNeg, Int.reduceLT, Int.reduceLE, Int.reduceEq, Int.reduceToNat, UInt8.reduceOfNat, reduceCtorEq, List.length_replicate, hll, e1, shrN, b8, app_b8]
    refine hR2 (j + 1) _ (by omega) (by omega) (.le ?_)
    rw [htk, e4]
    simp (disch := first | omega | (simp only [List.length_append, List.length_cons, List.length_nil, List.length_set, List.length_map, List.length_take, List.length_drop, List.length_range, List.length_replicate, List.length_reverse]; omega)) only [go_sem, Nat.reduceBEq, Nat.reduceAdd, Nat.reduceSub, Nat.reduceMul, Nat.reduceLT, Nat.reduceLeDiff, Nat.reduceEqDiff, Int.reduceAdd, Int.reduceSub, Int.reduceMul, Int.reduceNeg, Int.reduceLT, Int.reduceLE, Int.reduceEq, Int.reduceToNat, UInt8.reduceOfNat, reduceCtorEq, List.append_assoc]
  obtain rfl : j = 8 := by omega
  have htl : t ++ (128 : UInt8) :: (List.replicate (padK t.length) 0 ++ List.take 8 (lenB t.length)) = t ++ tailOf t.length := rfl
  have htlen : (tailOf t.length).length = 9 + padK t.length := by simp [tailOf, lenB]; omega
  simp (disch := first | omega | (simp only [List.length_append, List.length_cons, List.length_nil, List.length_set, List.length_map, List.length_take, List.length_drop, List.length_range, List.length_replicate, List.length_reverse]; omega)) only [go_sem, Nat.reduceBEq, Nat.reduceAdd, Nat.reduceSub, Nat.reduceMul, Nat.reduceLT, Nat.reduceLeDiff, Nat.reduceEqDiff, Int.reduceAdd, Int.reduceSub, Int.reduceMul, Int.reduceNeg, Int.reduceLT, Int.reduceLE, Int.reduceEq, Int.reduceToNat, UInt8.reduceOfNat, reduceCtorEq, htl]
  exact hR.le (by simp (disch := first | omega | (simp only [List.length_append, List.length_cons, List.length_nil, List.length_set, List.length_map, List.length_take, List.length_drop, List.length_range, List.length_replicate, List.length_reverse]; omega)) only [go_sem, Nat.reduceBEq, Nat.reduceAdd, Nat.reduceSub, Nat.reduceMul, Nat.reduceLT, Nat.reduceLeDiff, Nat.reduceEqDiff, Int.reduceAdd, Int.reduceSub, Int.reduceMul, Int.reduceNeg, Int.reduceLT, Int.reduceLE, Int.reduceEq, Int.reduceToNat, UInt8.reduceOfNat, reduceCtorEq]) ⟨rfl, by rw [htlen]; congr 1; omega⟩
/- WORDS -/
theorem getD_take {α : Type} (d : α) (l : List α) {k i : Nat} (h : i < k) : (l.take k).getD i d = l.getD i d := by
  rw [List.getD_eq_getElem?_getD, List.getD_eq_getElem?_getD, List.getElem?_take_of_lt h]
theorem word_sum (p : Bs) (i : Nat) : (byteW p i <<< 24 + byteW p (i + 1) <<< 16) + byteW p (i + 2) <<< 8 + byteW p (i + 3) = wordB p i := by
  have hb : ∀ k, (byteW p k).toNat < 256 := fun k => by
    have := (p.getD k 0).toNat_lt
    unfold byteW
    rw [BitVec.toNat_ofNat, Nat.mod_eq_of_lt] <;> omega
  have h0 := hb i; have h1 := hb (i + 1); have h2 := hb (i + 2); have h3 := hb (i + 3)
  unfold wordB
  generalize byteW p i = x at *
  generalize byteW p (i + 1) = y at *
  generalize byteW p (i + 2) = z at *
  generalize byteW p (i + 3) = w at *
  apply BitVec.eq_of_toNat_eq
  simp only [BitVec.toNat_add, BitVec.toNat_or, BitVec.toNat_shiftLeft, Nat.shiftLeft_eq]
  rw [Nat.mod_eq_of_lt (a := x.toNat * 2 ^ 24) (by omega), Nat.mod_eq_of_lt (a := y.toNat * 2 ^ 16) (by omega), Nat.mod_eq_of_lt (a := z.toNat * 2 ^ 8) (by omega)]
  rw [Nat.mod_eq_of_lt (a := x.toNat * 2 ^ 24 + y.toNat * 2 ^ 16) (by omega), Nat.mod_eq_of_lt (a := x.toNat * 2 ^ 24 + y.toNat * 2 ^ 16 + z.toNat * 2 ^ 8) (by omega), Nat.mod_eq_of_lt (by omega)]
  have e1 := Nat.two_pow_add_eq_or_of_lt (i := 24) (b := y.toNat * 2 ^ 16) (by omega) x.toNat
  have e2 := Nat.two_pow_add_eq_or_of_lt (i := 16) (b := z.toNat * 2 ^ 8) (by omega) (x.toNat * 2 ^ 8 + y.toNat)
  have e3 := Nat.two_pow_add_eq_or_of_lt (i := 8) (b := w.toNat) (by omega) (x.toNat * 2 ^ 16 + y.toNat * 2 ^ 8 + z.toNat)
  rw [Nat.mul_comm (2 ^ 24)] at e1
  rw [show 2 ^ 16 * (x.toNat * 2 ^ 8 + y.toNat) = x.toNat * 2 ^ 24 + y.toNat * 2 ^ 16 by omega] at e2
  rw [show 2 ^ 8 * (x.toNat * 2 ^ 16 + y.toNat * 2 ^ 8 + z.toNat) = x.toNat * 2 ^ 24 + y.toNat * 2 ^ 16 + z.toNat * 2 ^ 8 by omega] at e3
  rw [e3, e2, e1]
theorem wmul24 (x : W) : IntKind.u32.wrap (x.toNat * 16777216) = (x <<< 24).toNat := wshl x 24
theorem wmul16 (x : W) : IntKind.u32.wrap (x.toNat * 65536) = (x <<< 16).toNat := wshl x 16
theorem wmul8 (x : W) : IntKind.u32.wrap (x.toNat * 256) = (x <<< 8).toNat := wshl x 8
/-- the first words of the schedule -/
def sch (p : Bs) (i : Nat) : List W := (sched p i).take i
theorem sch_len (p : Bs) {i : Nat} (h : i ≤ 80) : (sch p i).length = i := by
  unfold sch; rw [List.length_take, sched_len]; omega
theorem sch_succ (p : Bs) {i : Nat} (h : i < 80) : sch p (i + 1) = sch p i ++ [(sched p (i + 1)).getD i 0#32] := by
  unfold sch
  have hl := sched_len p i
  have hl2 := sched_len p (i + 1)
  rw [List.take_add_one, List.getElem?_eq_getElem (by omega)]
  have : (sched p (i + 1)).take i = (sched p i).take i := by
    rw [sched_succ]
    unfold sstep
    split <;> rw [List.take_set_of_le (Nat.le_refl _)]
  rw [this]
  simp [List.getD_eq_getElem?_getD, hl2, h]
theorem sch_word (p : Bs) {i : Nat} (h : i < 16) : (sched p (i + 1)).getD i 0#32 = wordB p (4 * i) := by
  rw [sched_succ]
  unfold sstep
  rw [if_pos h]
  have : i < 80 := by omega
  simp [List.getD_eq_getElem?_getD, sched_len, this]
theorem sch_mix (p : Bs) {i : Nat} (h : ¬ i < 16) (h2 : i < 80) : (sched p (i + 1)).getD i 0#32 = ((sch p i).getD (i - 3) 0#32 ^^^ (sch p i).getD (i - 8) 0#32 ^^^ (sch p i).getD (i - 14) 0#32 ^^^ (sch p i).getD (i - 16) 0#32).rotateLeft 1 := by
  unfold sch
  rw [getD_take _ _ (by omega), getD_take _ _ (by omega), getD_take _ _ (by omega), getD_take _ _ (by omega), sched_succ]
  unfold sstep
  rw [if_neg h]
  simp [List.getD_eq_getElem?_getD, sched_len, h2]
theorem sch_all (p : Bs) : sch p 80 = sched p 80 := by
  unfold sch; rw [List.take_of_length_le (by rw [sched_len]; omega)]
theorem rwords_ok (p : Bs) (hp : p.length = 64) : Eng.Spec Tryd.prog 38 [] [.ro 1 (p.map ub)] (fun h' v ar => h' = [(113005, .arr 1 ((sch p 16).map u32))] ∧ v = .sl 113005 0 16 ∧ ar = [.undef]) := by
  refine Cod.rwords2_spec (fun E R hN hR => ?_)
  simp (disch := first | omega | (simp only [List.length_append, List.length_cons, List.length_nil, List.length_set, List.length_map, List.length_take, List.length_drop, List.length_range, List.length_replicate, List.length_reverse]; omega)) only [go_sem, Nat.reduceBEq, Nat.reduceAdd, Nat.reduceSub, Nat.reduceMul, Nat.reduceLT, Nat.reduceLeDiff, Nat.reduceEqDiff, Int.reduceAdd, Int.reduceSub, Int.reduceMul, Int.reduceNeg, Int.reduceLT, Int.reduceLE, Int.reduceEq, Int.reduceToNat, UInt8.reduceOfNat, reduceCtorEq]
  refine vcW_loop hN (fun k : Nat => ⟨[(0, .ro 1 (p.map ub)), (3, .sl 113005 0 k), (4, .int .i64 (4 * (k : Int)))], [(113005, .arr 1 ((sch p k).map u32))]⟩) (fun k => k ≤ 16) (fun k => 16 - k) 0 (.le (by simp (disch := first | omega | (simp only [List.length_append, List.length_cons, List.length_nil, List.length_set, List.length_map, List.length_take, List.length_drop, List.length_range, List.length_replicate, List.length_reverse]; omega)) only [go_sem, Nat.reduceBEq, Nat.reduceAdd, Nat.reduceSub, Nat.reduceMul, Nat.reduceLT, Nat.reduceLeDiff, Nat.reduceEqDiff, Int.reduceAdd, Int.reduceSub, Int.reduceMul, Int.reduceNeg, Int.reduceLT, Int.reduceLE, Int.reduceEq, Int.reduceToNat, UInt8.reduceOfNat, reduceCtorEq]; rfl)) (by omega) ?_
  rintro k R1 hk hR1
  have hsl := sch_len p (i := k) (by omega)
  by_cases hlt : k < 16
  · have hss := sch_succ p (i := k) (by omega)
    rw [sch_word p hlt] at hss
    have hws := word_sum p (4 * k)
    have e0 : (4 * (k : Int)).toNat = 4 * k := by omega
    have e1 : (4 * (k : Int) + 1).toNat = 4 * k + 1 := by omega
    have e2 : (4 * (k : Int) + 2).toNat = 4 * k + 2 := by omega
    have e3 : (4 * (k : Int) + 3).toNat = 4 * k + 3 := by omega
    simp (disch := first | omega | (simp only [List.length_append, List.length_cons, List.length_nil, List.length_set, List.length_map, List.length_take, List.length_drop, List.length_range, List.length_replicate, List.length_reverse]; omega)) only [go_sem, Nat.reduceBEq, Nat.reduceAdd, Nat.reduceSub, Nat.reduceMul, Nat.reduceLT, Nat.reduceLeDiff, Nat.reduceEqDiff, Int.reduceAdd, Int.reduceSub, Int.reduceMul, Int.reduceNeg, Int.reduceLT, Int.reduceLE, Int.reduceEq, Int.reduceToNat, UInt8.reduceOfNat, reduceCtorEq, e0, e1, e2, e3, byteW_eq, wrapW, wmul24, wmul16, wmul8, wadd, cells_u32, hws, app_u32]
    refine hR1 (k + 1) _ (by omega) (by omega) (.le ?_)
    rw [hss, show 4 * ((k + 1 : Nat) : Int) = 4 * (k : Int) + 4 by omega]
    simp (disch := first | omega | (simp only [List.length_append, List.length_cons, List.length_nil, List.length_set, List.length_map, List.length_take, List.length_drop, List.length_range, List.length_replicate, List.length_reverse]; omega)) only [go_sem, Nat.reduceBEq, Nat.reduceAdd, Nat.reduceSub, Nat.reduceMul, Nat.reduceLT, Nat.reduceLeDiff, Nat.reduceEqDiff, Int.reduceAdd, Int.reduceSub, Int.reduceMul, Int.reduceNeg, Int.reduceLT, Int.reduceLE, Int.reduceEq, Int.reduceToNat, UInt8.reduceOfNat, reduceCtorEq]
  · obtain rfl : k = 16 := by omega
    simp (disch := first | omega | (simp only [List.length_append, List.length_cons, List.length_nil, List.length_set, List.length_map, List.length_take, List.length_drop, List.length_range, List.length_replicate, List.length_reverse]; omega)) only [go_sem, Nat.reduceBEq, Nat.reduceAdd, Nat.reduceSub, Nat.reduceMul, Nat.reduceLT, Nat.reduceLeDiff, Nat.reduceEqDiff, Int.reduceAdd, Int.reduceSub, Int.reduceMul, Int.reduceNeg, Int.reduceLT, Int.reduceLE, Int.reduceEq, Int.reduceToNat, UInt8.reduceOfNat, reduceCtorEq]
    exact hR.le (by simp (disch := first | omega | (simp only [List.length_append, List.length_cons, List.length_nil, List.length_set, List.length_map, List.length_take, List.length_drop, List.length_range, List.length_replicate, List.length_reverse]; omega)) only [go_sem, Nat.reduceBEq, Nat.reduceAdd, Nat.reduceSub, Nat.reduceMul, Nat.reduceLT, Nat.reduceLeDiff, Nat.reduceEqDiff, Int.reduceAdd, Int.reduceSub, Int.reduceMul, Int.reduceNeg, Int.reduceLT, Int.reduceLE, Int.reduceEq, Int.reduceToNat, UInt8.reduceOfNat, reduceCtorEq]) ⟨rfl, rfl, rfl⟩
theorem rout_ok (l : List W) (hl : l.length ≤ 1000) : SpecR Tryd.prog 40 [.ro 1 (l.map u32)] (.str (outW l)) := by
  refine Cod.rout_spec (fun E R hN hR => ?_)
  simp (disch := first | omega | (simp only [List.length_append, List.length_cons, List.length_nil, List.length_set, List.length_map, List.length_take, List.length_drop, List.length_range, List.length_replicate, List.length_reverse]; omega)) only [go_sem, Nat.reduceBEq, Nat.reduceAdd, Nat.reduceSub, Nat.reduceMul, Nat.reduceLT, Nat.reduceLeDiff, Nat.reduceEqDiff, Int.reduceAdd, Int.reduceSub, Int.reduceMul, Int.reduceNeg, Int.reduceLT, Int.reduceLE, Int.reduceEq, Int.reduceToNat, UInt8.reduceOfNat, reduceCtorEq]
  refine vcW_loop hN (fun k : Nat => ⟨[(3, .sl 114006 0 (4 * k)), (7, .ro 1 (l.map u32)), (8, .int .i64 l.length), (9, .int .i64 k)], [(114006, .arr 1 ((outW (l.take k)).map ub))]⟩) (fun k => k ≤ l.length) (fun k => l.length - k) 0 (.le (by simp (disch := first | omega | (simp only [List.length_append, List.length_cons, List.length_nil, List.length_set, List.length_map, List.length_take, List.length_drop, List.length_range, List.length_replicate, List.length_reverse]; omega)) only [go_sem, Nat.reduceBEq, Nat.reduceAdd, Nat.reduceSub, Nat.reduceMul, Nat.reduceLT, Nat.reduceLeDiff, Nat.reduceEqDiff, Int.reduceAdd, Int.reduceSub, Int.reduceMul, Int.reduceNeg, Int.reduceLT, Int.reduceLE, Int.reduceEq, Int.reduceToNat, UInt8.reduceOfNat, reduceCtorEq]; rfl)) (by omega) ?_
  rintro k R1 hk hR1
  have hol : (outW (l.take k)).length = 4 * k := by rw [outW_len, List.length_take]; omega
  by_cases hlt : k < l.length
  · have htk : outW (l.take (k + 1)) = outW (l.take k) ++ wOut (l.getD k 0#32) := by
      rw [List.take_add_one, List.getElem?_eq_getElem hlt, outW, outW, List.flatMap_append]
      simp [List.getD_eq_getElem?_getD, hlt]
    simp (disch := first | omega | (simp only [List.length_append, List.length_cons, List.length_nil, List.length_set, List.length_map, List.length_take, List.length_drop, List.length_range, List.length_replicate, List.length_reverse]; omega)) only [go_sem, Nat.reduceBEq, Nat.reduceAdd, Nat.reduceSub, Nat.reduceMul, Nat.reduceLT, Nat.reduceLeDiff, Nat.reduceEqDiff, Int.reduceAdd, Int.reduceSub, Int.reduceMul, Int.reduceNeg, Int.reduceLT, Int.reduceLE, Int.reduceEq, Int.reduceToNat, UInt8.reduceOfNat, reduceCtorEq, nth_u32, u32_eq, show min 24 32 = 24 from rfl, show min 16 32 = 16 from rfl, show min 8 32 = 8 from rfl, shrN, b8]
    refine hR1 (k + 1) _ (by omega) (by omega) (.le ?_)
    rw [htk, show 4 * (k + 1) = 4 * k + 4 by omega]
    simp (disch := first | omega | (simp only [List.length_append, List.length_cons, List.length_nil, List.length_set, List.length_map, List.length_take, List.length_drop, List.length_range, List.length_replicate, List.length_reverse]; omega)) only [go_sem, Nat.reduceBEq, Nat.reduceAdd, Nat.reduceSub, Nat.reduceMul, Nat.reduceLT, Nat.reduceLeDiff, Nat.reduceEqDiff, Int.reduceAdd, Int.reduceSub, Int.reduceMul, Int.reduceNeg, Int.reduceLT, Int.reduceLE, Int.reduceEq, Int.reduceToNat, UInt8.reduceOfNat, reduceCtorEq, wOut]
    rw [List.map_append]; rfl
  · obtain rfl : k = l.length := by omega
    rw [List.take_of_length_le (by omega)] at hol ⊢
    simp (disch := first | omega | (simp only [List.length_append, List.length_cons, List.length_nil, List.length_set, List.length_map, List.length_take, List.length_drop, List.length_range, List.length_replicate, List.length_reverse]; omega)) only [go_sem, Nat.reduceBEq, Nat.reduceAdd, Nat.reduceSub, Nat.reduceMul, Nat.reduceLT, Nat.reduceLeDiff, Nat.reduceEqDiff, Int.reduceAdd, Int.reduceSub, Int.reduceMul, Int.reduceNeg, Int.reduceLT, Int.reduceLE, Int.reduceEq, Int.reduceToNat, UInt8.reduceOfNat, reduceCtorEq]
    exact hR.wk (h' := []) (r' := .str (outW l)) (ar' := [.undef]) rfl (.le (by simp (disch := first | omega | (simp only [List.length_append, List.length_cons, List.length_nil, List.length_set, List.length_map, List.length_take, List.length_drop, List.length_range, List.length_replicate, List.length_reverse]; omega)) only [go_sem, Nat.reduceBEq, Nat.reduceAdd, Nat.reduceSub, Nat.reduceMul, Nat.reduceLT, Nat.reduceLeDiff, Nat.reduceEqDiff, Int.reduceAdd, Int.reduceSub, Int.reduceMul, Int.reduceNeg, Int.reduceLT, Int.reduceLE, Int.reduceEq, Int.reduceToNat, UInt8.reduceOfNat, reduceCtorEq])) ⟨rfl, rfl⟩
theorem hexP1 (b : UInt8) : List.take (b.toNat / 16 + 1 - b.toNat / 16) (List.drop (b.toNat / 16) hexD) ++ List.take (b.toNat % 16 + 1 - b.toNat % 16) (List.drop (b.toNat % 16) hexD) = hexB b := by
  have key : ∀ m : Fin 16, List.take (m.val + 1 - m.val) (List.drop m.val hexD) = [hexD.getD m.val 0] := by decide
  have hb := b.toNat_lt
  have h1 := key ⟨b.toNat / 16, by omega⟩
  have h2 := key ⟨b.toNat % 16, by omega⟩
  simp only at h1 h2
  rw [h1, h2]; rfl
theorem rhex_ok (t : Bs) (ht : t.length ≤ 1000000) : SpecR Tryd.prog 28 [.str t] (.str (hexOf t)) := by
  refine Cod.rhex_spec (fun E R hN hR => ?_)
  simp (disch := first | omega | (simp only [List.length_append, List.length_cons, List.length_nil, List.length_set, List.length_map, List.length_take, List.length_drop, List.length_range, List.length_replicate, List.length_reverse]; omega)) only [go_sem, Nat.reduceBEq, Nat.reduceAdd, Nat.reduceSub, Nat.reduceMul, Nat.reduceLT, Nat.reduceLeDiff, Nat.reduceEqDiff, Int.reduceAdd, Int.reduceSub, Int.reduceMul, Int.reduceNeg, Int.reduceLT, Int.reduceLE, Int.reduceEq, Int.reduceToNat, UInt8.reduceOfNat, reduceCtorEq]
  refine vcW_loop hN (fun k : Nat => ⟨[(0, .str t), (3, .str (hexOf (t.take k))), (4, .int .i64 k)], []⟩) (fun k => k ≤ t.length) (fun k => t.length - k) 0 (.le (by simp (disch := first | omega | (simp only [List.length_append, List.length_cons, List.length_nil, List.length_set, List.length_map, List.length_take, List.length_drop, List.length_range, List.length_replicate, List.length_reverse]; omega)) only [go_sem, Nat.reduceBEq, Nat.reduceAdd, Nat.reduceSub, Nat.reduceMul, Nat.reduceLT, Nat.reduceLeDiff, Nat.reduceEqDiff, Int.reduceAdd, Int.reduceSub, Int.reduceMul, Int.reduceNeg, Int.reduceLT, Int.reduceLE, Int.reduceEq, Int.reduceToNat, UInt8.reduceOfNat, reduceCtorEq]; rfl)) (by omega) ?_
  rintro k R1 hk hR1
  have hhl : (hexOf (t.take k)).length = 2 * k := by rw [hex_len, List.length_take]; omega
  by_cases hlt : k < t.length
  · have htk : hexOf (t.take (k + 1)) = hexOf (t.take k) ++ hexB (t.getD k 0) := by rw [take_succU t hlt, hexOf_snoc]
    generalize hb : t.getD k 0 = b at *
    have hb1 := b.toNat_lt
    have hp := hexP1 b
    rw [hexD] at hp
    have e1 : ((b.toNat : Int) / 16 + 1).toNat = b.toNat / 16 + 1 := by omega
    have e2 : ((b.toNat : Int) / 16).toNat = b.toNat / 16 := by omega
    have e3 : ((b.toNat : Int) % 16 + 1).toNat = b.toNat % 16 + 1 := by omega
    have e4 : ((b.toNat : Int) % 16).toNat = b.toNat % 16 := by omega
    simp (disch := first | omega | (simp only [List.length_append, List.length_cons, List.length_nil, List.length_set, List.length_map, List.length_take, List.length_drop, List.length_range, List.length_replicate, List.length_reverse]; omega)) only [go_sem, Nat.reduceBEq, Nat.reduceAdd, Nat.reduceSub, Nat.reduceMul, Nat.reduceLT, Nat.reduceLeDiff, Nat.reduceEqDiff, Int.reduceAdd, Int.reduceSub, Int.reduceMul, Int.reduceNeg, Int.reduceLT, Int.reduceLE, Int.reduceEq, Int.reduceToNat, UInt8.reduceOfNat, reduceCtorEq, hb]
    rw [e1, e2, e3, e4, hp]
    exact hR1 (k + 1) _ (by omega) (by omega) (.le (by simp (disch := first | omega | (simp only [List.length_append, List.length_cons, List.length_nil, List.length_set, List.length_map, List.length_take, List.length_drop, List.length_range, List.length_replicate, List.length_reverse]; omega)) only [go_sem, Nat.reduceBEq, Nat.reduceAdd, Nat.reduceSub, Nat.reduceMul, Nat.reduceLT, Nat.reduceLeDiff, Nat.reduceEqDiff, Int.reduceAdd, Int.reduceSub, Int.reduceMul, Int.reduceNeg, Int.reduceLT, Int.reduceLE, Int.reduceEq, Int.reduceToNat, UInt8.reduceOfNat, reduceCtorEq, htk]))
  · obtain rfl : k = t.length := by omega
    rw [List.take_of_length_le (by omega)] at hhl ⊢
    simp (disch := first | omega | (simp only [List.length_append, List.length_cons, List.length_nil, List.length_set, List.length_map, List.length_take, List.length_drop, List.length_range, List.length_replicate, List.length_reverse]; omega)) only [go_sem, Nat.reduceBEq, Nat.reduceAdd, Nat.reduceSub, Nat.reduceMul, Nat.reduceLT, Nat.reduceLeDiff, Nat.reduceEqDiff, Int.reduceAdd, Int.reduceSub, Int.reduceMul, Int.reduceNeg, Int.reduceLT, Int.reduceLE, Int.reduceEq, Int.reduceToNat, UInt8.reduceOfNat, reduceCtorEq]
    exact hR.ro ⟨rfl, rfl⟩
end Go.Proofs.YtlnplfjcnncakaaDoor.Sh
