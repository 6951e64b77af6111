/- semver, the document's answer: Cut, Digits, Number, Words. -/
import Derived.Test.YtjjhicejabggdaaDoorSvPlain
set_option linter.all false
namespace Go.Proofs.YtjjhicejabggdaaDoor.Sv
open Eng
set_option maxRecDepth 10000
theorem indexByte_no {c : UInt8} : ∀ {s : Bs}, c ∉ s → Lib.indexByte s c = -1
  | [], _ => rfl
  | x :: r, h => by
    simp only [List.mem_cons, not_or] at h
    have hb : (x == c) = false := by simp only [beq_eq_false_iff_ne]; exact fun e => h.1 e.symm
    simp [Lib.indexByte, hb, indexByte_no h.2]
theorem indexByte_at {c : UInt8} : ∀ {s : Bs} {k : Nat}, k < s.length → s.getD k 0 = c → c ∉ s.take k → Lib.indexByte s c = (k : Int)
  | [], _, h, _, _ => by simp at h
  | x :: r, 0, _, h, _ => by
    have h : x = c := by simpa using h
    simp [Lib.indexByte, h]
  | x :: r, k + 1, h1, h2, h3 => by
    simp only [List.take_succ_cons, List.mem_cons, not_or] at h3
    have hb : (x == c) = false := by simp only [beq_eq_false_iff_ne]; exact fun e => h3.1 e.symm
    have ih := indexByte_at (s := r) (k := k) (by simpa using h1) (by simpa using h2) h3.2
    have hne : (Lib.indexByte r c == -1) = false := by rw [ih]; simp
    simp [Lib.indexByte, hb, hne, ih]
theorem find_ok (s : Bs) (c : UInt8) (hs : s.length ≤ 9223372036854775807) : SpecR Tryd.prog 34 [.str s, .int .u8 (c.toNat : Int)] (.int .i64 (Lib.indexByte s c)) := by
  refine Cod.find_spec (fun E R hN hR => ?_)
  simp (disch := first | omega | (simp only [List.length_append, List.length_cons, List.length_nil, List.length_set, List.length_map, List.length_take, List.length_drop, List.length_range, List.length_replicate, List.length_reverse]; omega)) only [go_sem, Nat.reduceBEq, Nat.reduceAdd, Nat.reduceSub, Nat.reduceMul, Nat.reduceLT, Nat.reduceLeDiff, Nat.reduceEqDiff, Int.reduceAdd, Int.reduceSub, Int.reduceMul, Int.reduceNeg, Int.reduceLT, Int.reduceLE, Int.reduceEq, Int.reduceToNat, UInt8.reduceOfNat, reduceCtorEq]
  refine vcW_loop hN (fun k : Nat => ⟨[(0, .str s), (1, .int .u8 (c.toNat : Int)), (5, .int .i64 k)], []⟩) (fun k => k ≤ s.length ∧ c ∉ s.take k) (fun k => s.length - k) 0 (.le (by simp (disch := first | omega | (simp only [List.length_append, List.length_cons, List.length_nil, List.length_set, List.length_map, List.length_take, List.length_drop, List.length_range, List.length_replicate, List.length_reverse]; omega)) only [go_sem, Nat.reduceBEq, Nat.reduceAdd, Nat.reduceSub, Nat.reduceMul, Nat.reduceLT, Nat.reduceLeDiff, Nat.reduceEqDiff, Int.reduceAdd, Int.reduceSub, Int.reduceMul, Int.reduceNeg, Int.reduceLT, Int.reduceLE, Int.reduceEq, Int.reduceToNat, UInt8.reduceOfNat, reduceCtorEq])) (by simp) ?_
  rintro k R1 ⟨hk, hno⟩ hR1
  by_cases hl : k < s.length
  · have htk := take_succB 0 s hl
    simp (disch := first | omega | (simp only [List.length_append, List.length_cons, List.length_nil, List.length_set, List.length_map, List.length_take, List.length_drop, List.length_range, List.length_replicate, List.length_reverse]; omega)) only [go_sem, Nat.reduceBEq, Nat.reduceAdd, Nat.reduceSub, Nat.reduceMul, Nat.reduceLT, Nat.reduceLeDiff, Nat.reduceEqDiff, Int.reduceAdd, Int.reduceSub, Int.reduceMul, Int.reduceNeg, Int.reduceLT, Int.reduceLE, Int.reduceEq, Int.reduceToNat, UInt8.reduceOfNat, reduceCtorEq]
    refine ifW_dec (fun he => ?_) (fun he => ?_)
    · simp (disch := first | omega | (simp only [List.length_append, List.length_cons, List.length_nil, List.length_set, List.length_map, List.length_take, List.length_drop, List.length_range, List.length_replicate, List.length_reverse]; omega)) only [go_sem, Nat.reduceBEq, Nat.reduceAdd, Nat.reduceSub, Nat.reduceMul, Nat.reduceLT, Nat.reduceLeDiff, Nat.reduceEqDiff, Int.reduceAdd, Int.reduceSub, Int.reduceMul, Int.reduceNeg, Int.reduceLT, Int.reduceLE, Int.reduceEq, Int.reduceToNat, UInt8.reduceOfNat, reduceCtorEq]
      refine hR.ro ⟨rfl, ?_⟩
      have hx : s.getD k 0 = c := UInt8.toNat.inj (by omega)
      rw [indexByte_at hl hx hno]
    · simp (disch := first | omega | (simp only [List.length_append, List.length_cons, List.length_nil, List.length_set, List.length_map, List.length_take, List.length_drop, List.length_range, List.length_replicate, List.length_reverse]; omega)) only [go_sem, Nat.reduceBEq, Nat.reduceAdd, Nat.reduceSub, Nat.reduceMul, Nat.reduceLT, Nat.reduceLeDiff, Nat.reduceEqDiff, Int.reduceAdd, Int.reduceSub, Int.reduceMul, Int.reduceNeg, Int.reduceLT, Int.reduceLE, Int.reduceEq, Int.reduceToNat, UInt8.reduceOfNat, reduceCtorEq]
      refine hR1 (k + 1) _ (by omega) ⟨by omega, ?_⟩ (.le (by simp (disch := first | omega | (simp only [List.length_append, List.length_cons, List.length_nil, List.length_set, List.length_map, List.length_take, List.length_drop, List.length_range, List.length_replicate, List.length_reverse]; omega)) only [go_sem, Nat.reduceBEq, Nat.reduceAdd, Nat.reduceSub, Nat.reduceMul, Nat.reduceLT, Nat.reduceLeDiff, Nat.reduceEqDiff, Int.reduceAdd, Int.reduceSub, Int.reduceMul, Int.reduceNeg, Int.reduceLT, Int.reduceLE, Int.reduceEq, Int.reduceToNat, UInt8.reduceOfNat, reduceCtorEq]))
      rw [htk]
      simp only [List.mem_append, List.mem_singleton, not_or]
      exact ⟨hno, fun e => he (by rw [← e])⟩
  · obtain rfl : k = s.length := by omega
    rw [List.take_of_length_le (Nat.le_refl _)] at hno
    simp (disch := first | omega | (simp only [List.length_append, List.length_cons, List.length_nil, List.length_set, List.length_map, List.length_take, List.length_drop, List.length_range, List.length_replicate, List.length_reverse]; omega)) only [go_sem, Nat.reduceBEq, Nat.reduceAdd, Nat.reduceSub, Nat.reduceMul, Nat.reduceLT, Nat.reduceLeDiff, Nat.reduceEqDiff, Int.reduceAdd, Int.reduceSub, Int.reduceMul, Int.reduceNeg, Int.reduceLT, Int.reduceLE, Int.reduceEq, Int.reduceToNat, UInt8.reduceOfNat, reduceCtorEq]
    exact hR.ro ⟨rfl, by rw [indexByte_no hno]⟩
theorem splitB_snoc (c x : UInt8) : ∀ t : Bs, splitB c (t ++ [x]) = if x = c then splitB c t ++ [[]] else (splitB c t).set ((splitB c t).length - 1) ((splitB c t).getD ((splitB c t).length - 1) [] ++ [x])
  | [] => by
    by_cases h : x = c
    · simp [splitB, h]
    · simp [splitB, h]
  | y :: t => by
    have ih := splitB_snoc c x t
    rw [List.cons_append, splitB, splitB]
    have hne := splitB_ne c t
    by_cases hy : y = c
    · rw [if_pos hy, if_pos hy, ih]
      have hpos : 0 < (splitB c t).length := List.length_pos_iff.2 hne
      by_cases hx : x = c
      · rw [if_pos hx, if_pos hx]; simp
      · rw [if_neg hx, if_neg hx]
        obtain ⟨n, hn⟩ : ∃ n, (splitB c t).length = n + 1 := ⟨_, (Nat.succ_pred (by omega)).symm⟩
        simp [hn]
    · rw [if_neg hy, if_neg hy, ih]
      cases hs : splitB c t with
      | nil => exact absurd hs hne
      | cons p ps =>
        by_cases hx : x = c
        · rw [if_pos hx, if_pos hx]; rfl
        · rw [if_neg hx, if_neg hx]
          cases ps with
          | nil => simp
          | cons q qs => simp
theorem splitB_lenle (c : UInt8) : ∀ s : Bs, (splitB c s).length ≤ s.length + 1 ∧ 0 < (splitB c s).length
  | [] => by simp [splitB]
  | x :: r => by
    have := splitB_lenle c r
    unfold splitB
    split
    · simp; omega
    · split
      · simp
      · rename_i p ps e
        rw [e] at this
        simp at this ⊢; omega
theorem rcut_ok (s : Bs) (c : UInt8) (hs : s.length ≤ 1000) : Eng.Spec Tryd.prog 30 [] [.str s, .int .u8 (c.toNat : Int)]
    (fun h r ar => h = [(13021, .arr 1 ((splitB c s).map AV.str))] ∧ r = .sl 13021 0 (splitB c s).length ∧ ar = [.undef, .undef]) := by
  refine Cod.rcut_spec (fun E R hN hR => ?_)
  simp (disch := first | omega | (simp only [List.length_append, List.length_cons, List.length_nil, List.length_set, List.length_map, List.length_take, List.length_drop, List.length_range, List.length_replicate, List.length_reverse]; omega)) only [go_sem, Nat.reduceBEq, Nat.reduceAdd, Nat.reduceSub, Nat.reduceMul, Nat.reduceLT, Nat.reduceLeDiff, Nat.reduceEqDiff, Int.reduceAdd, Int.reduceSub, Int.reduceMul, Int.reduceNeg, Int.reduceLT, Int.reduceLE, Int.reduceEq, Int.reduceToNat, UInt8.reduceOfNat, reduceCtorEq]
  refine vcW_loop hN (fun k : Nat => ⟨[(0, .str s), (1, .int .u8 (c.toNat : Int)), (5, .sl 13021 0 (splitB c (s.take k)).length), (6, .int .i64 k)], [(13021, .arr 1 ((splitB c (s.take k)).map AV.str))]⟩) (fun k => k ≤ s.length) (fun k => s.length - k) 0 (.ren 13007 13021 rfl rfl (.le (by simp (disch := first | omega | (simp only [List.length_append, List.length_cons, List.length_nil, List.length_set, List.length_map, List.length_take, List.length_drop, List.length_range, List.length_replicate, List.length_reverse]; omega)) only [go_sem, Nat.reduceBEq, Nat.reduceAdd, Nat.reduceSub, Nat.reduceMul, Nat.reduceLT, Nat.reduceLeDiff, Nat.reduceEqDiff, Int.reduceAdd, Int.reduceSub, Int.reduceMul, Int.reduceNeg, Int.reduceLT, Int.reduceLE, Int.reduceEq, Int.reduceToNat, UInt8.reduceOfNat, reduceCtorEq, splitB]))) (by omega) ?_
  rintro k R1 hk hR1
  by_cases hl : k < s.length
  · have htk := take_succB 0 s hl
    have hsn := splitB_snoc c (s.getD k 0) (s.take k)
    rw [← htk] at hsn
    obtain ⟨hb1, hb2⟩ := splitB_lenle c (s.take k)
    rw [List.length_take] at hb1
    have hbl := splitB_len c (s.take k)
    obtain ⟨L, hL⟩ : ∃ L, L = splitB c (s.take k) := ⟨_, rfl⟩
    rw [← hL] at hb1 hb2 hsn hbl ⊢
    simp (disch := first | omega | (simp only [List.length_append, List.length_cons, List.length_nil, List.length_set, List.length_map, List.length_take, List.length_drop, List.length_range, List.length_replicate, List.length_reverse]; omega)) only [go_sem, Nat.reduceBEq, Nat.reduceAdd, Nat.reduceSub, Nat.reduceMul, Nat.reduceLT, Nat.reduceLeDiff, Nat.reduceEqDiff, Int.reduceAdd, Int.reduceSub, Int.reduceMul, Int.reduceNeg, Int.reduceLT, Int.reduceLE, Int.reduceEq, Int.reduceToNat, UInt8.reduceOfNat, reduceCtorEq]
    refine ifW_dec (fun he => ?_) (fun he => ?_)
    · rw [if_pos (UInt8.toNat.inj (by omega))] at hsn
      simp (disch := first | omega | (simp only [List.length_append, List.length_cons, List.length_nil, List.length_set, List.length_map, List.length_take, List.length_drop, List.length_range, List.length_replicate, List.length_reverse]; omega)) only [go_sem, Nat.reduceBEq, Nat.reduceAdd, Nat.reduceSub, Nat.reduceMul, Nat.reduceLT, Nat.reduceLeDiff, Nat.reduceEqDiff, Int.reduceAdd, Int.reduceSub, Int.reduceMul, Int.reduceNeg, Int.reduceLT, Int.reduceLE, Int.reduceEq, Int.reduceToNat, UInt8.reduceOfNat, reduceCtorEq]
      exact hR1 (k + 1) _ (by omega) (by omega) (.le (by simp (disch := first | omega | (simp only [List.length_append, List.length_cons, List.length_nil, List.length_set, List.length_map, List.length_take, List.length_drop, List.length_range, List.length_replicate, List.length_reverse]; omega)) only [go_sem, Nat.reduceBEq, Nat.reduceAdd, Nat.reduceSub, Nat.reduceMul, Nat.reduceLT, Nat.reduceLeDiff, Nat.reduceEqDiff, Int.reduceAdd, Int.reduceSub, Int.reduceMul, Int.reduceNeg, Int.reduceLT, Int.reduceLE, Int.reduceEq, Int.reduceToNat, UInt8.reduceOfNat, reduceCtorEq, hsn, List.length_append]))
    · rw [if_neg (fun e => he (by rw [e]))] at hsn
      have := hbl (L.getD (L.length - 1) []) (getD_memB (by omega))
      rw [List.length_take] at this
      simp (disch := first | omega | (simp only [List.length_append, List.length_cons, List.length_nil, List.length_set, List.length_map, List.length_take, List.length_drop, List.length_range, List.length_replicate, List.length_reverse]; omega)) only [go_sem, Nat.reduceBEq, Nat.reduceAdd, Nat.reduceSub, Nat.reduceMul, Nat.reduceLT, Nat.reduceLeDiff, Nat.reduceEqDiff, Int.reduceAdd, Int.reduceSub, Int.reduceMul, Int.reduceNeg, Int.reduceLT, Int.reduceLE, Int.reduceEq, Int.reduceToNat, UInt8.reduceOfNat, reduceCtorEq]
      have e1 : List.take (k + 1 - k) (List.drop k s) = [List.getD s k 0] := by
        rw [show k + 1 - k = 1 by omega, List.drop_eq_getElem_cons hl, List.take_succ_cons, List.take_zero, List.getD_eq_getElem?_getD, List.getElem?_eq_getElem hl]
        rfl
      rw [e1, ← hsn]
      have e2 : L.length = (splitB c (List.take (k + 1) s)).length := by rw [hsn, List.length_set]
      rw [e2]
      exact hR1 (k + 1) _ (by omega) (by omega) (.le (by simp (disch := first | omega | (simp only [List.length_append, List.length_cons, List.length_nil, List.length_set, List.length_map, List.length_take, List.length_drop, List.length_range, List.length_replicate, List.length_reverse]; omega)) only [go_sem, Nat.reduceBEq, Nat.reduceAdd, Nat.reduceSub, Nat.reduceMul, Nat.reduceLT, Nat.reduceLeDiff, Nat.reduceEqDiff, Int.reduceAdd, Int.reduceSub, Int.reduceMul, Int.reduceNeg, Int.reduceLT, Int.reduceLE, Int.reduceEq, Int.reduceToNat, UInt8.reduceOfNat, reduceCtorEq]))
  · obtain rfl : k = s.length := by omega
    rw [List.take_of_length_le (Nat.le_refl _)]
    simp (disch := first | omega | (simp only [List.length_append, List.length_cons, List.length_nil, List.length_set, List.length_map, List.length_take, List.length_drop, List.length_range, List.length_replicate, List.length_reverse]; omega)) only [go_sem, Nat.reduceBEq, Nat.reduceAdd, Nat.reduceSub, Nat.reduceMul, Nat.reduceLT, Nat.reduceLeDiff, Nat.reduceEqDiff, Int.reduceAdd, Int.reduceSub, Int.reduceMul, Int.reduceNeg, Int.reduceLT, Int.reduceLE, Int.reduceEq, Int.reduceToNat, UInt8.reduceOfNat, reduceCtorEq]
    exact hR.le (by simp (disch := first | omega | (simp only [List.length_append, List.length_cons, List.length_nil, List.length_set, List.length_map, List.length_take, List.length_drop, List.length_range, List.length_replicate, List.length_reverse]; omega)) only [go_sem, Nat.reduceBEq, Nat.reduceAdd, Nat.reduceSub, Nat.reduceMul, Nat.reduceLT, Nat.reduceLeDiff, Nat.reduceEqDiff, Int.reduceAdd, Int.reduceSub, Int.reduceMul, Int.reduceNeg, Int.reduceLT, Int.reduceLE, Int.reduceEq, Int.reduceToNat, UInt8.reduceOfNat, reduceCtorEq]) ⟨rfl, rfl, rfl⟩
theorem digB_take {s : Bs} : ∀ {k : Nat}, k < s.length → isD (s.getD k 0) = false → digB s = false := by
  intro k hk h
  rw [digB, not_all (x := s.getD k 0) ?_ h, Bool.and_false]
  rw [List.getD_eq_getElem?_getD, List.getElem?_eq_getElem hk]; exact List.getElem_mem hk
theorem rdigits_ok (s : Bs) (hs : s.length ≤ 9223372036854775807) : SpecR Tryd.prog 31 [.str s] (.bool (digB s)) := by
  refine Cod.rdigits_spec (fun E R hN hR => ?_)
  simp (disch := first | omega | (simp only [List.length_append, List.length_cons, List.length_nil, List.length_set, List.length_map, List.length_take, List.length_drop, List.length_range, List.length_replicate, List.length_reverse]; omega)) only [go_sem, Nat.reduceBEq, Nat.reduceAdd, Nat.reduceSub, Nat.reduceMul, Nat.reduceLT, Nat.reduceLeDiff, Nat.reduceEqDiff, Int.reduceAdd, Int.reduceSub, Int.reduceMul, Int.reduceNeg, Int.reduceLT, Int.reduceLE, Int.reduceEq, Int.reduceToNat, UInt8.reduceOfNat, reduceCtorEq]
  refine vcW_loop hN (fun k : Nat => ⟨[(0, .str s), (3, .int .i64 k)], []⟩) (fun k => k ≤ s.length ∧ (s.take k).all isD = true) (fun k => s.length - k) 0 (.le (by simp (disch := first | omega | (simp only [List.length_append, List.length_cons, List.length_nil, List.length_set, List.length_map, List.length_take, List.length_drop, List.length_range, List.length_replicate, List.length_reverse]; omega)) only [go_sem, Nat.reduceBEq, Nat.reduceAdd, Nat.reduceSub, Nat.reduceMul, Nat.reduceLT, Nat.reduceLeDiff, Nat.reduceEqDiff, Int.reduceAdd, Int.reduceSub, Int.reduceMul, Int.reduceNeg, Int.reduceLT, Int.reduceLE, Int.reduceEq, Int.reduceToNat, UInt8.reduceOfNat, reduceCtorEq])) (by simp) ?_
  rintro k R1 ⟨hk, hd⟩ hR1
  by_cases hl : k < s.length
  · have htk := take_succB 0 s hl
    have hbad := @digB_take s k hl
    obtain ⟨b, hb⟩ : ∃ b, b = s.getD k 0 := ⟨_, rfl⟩
    rw [← hb] at htk hbad
    by_cases h1 : b.toNat < 48
    · simp (disch := first | omega | (simp only [List.length_append, List.length_cons, List.length_nil, List.length_set, List.length_map, List.length_take, List.length_drop, List.length_range, List.length_replicate, List.length_reverse]; omega)) only [go_sem, Nat.reduceBEq, Nat.reduceAdd, Nat.reduceSub, Nat.reduceMul, Nat.reduceLT, Nat.reduceLeDiff, Nat.reduceEqDiff, Int.reduceAdd, Int.reduceSub, Int.reduceMul, Int.reduceNeg, Int.reduceLT, Int.reduceLE, Int.reduceEq, Int.reduceToNat, UInt8.reduceOfNat, reduceCtorEq, ← hb]
      (repeat (first | (with_reducible refine gskip_of ?_) | (with_reducible refine gcskip_of ?_) | (with_reducible refine gopen_of ?_)) <;> simp (disch := first | omega | (simp only [List.length_append, List.length_cons, List.length_nil, List.length_set, List.length_map, List.length_take, List.length_drop, List.length_range, List.length_replicate, List.length_reverse]; omega)) only [go_sem, Nat.reduceBEq, Nat.reduceAdd, Nat.reduceSub, Nat.reduceMul, Nat.reduceLT, Nat.reduceLeDiff, Nat.reduceEqDiff, Int.reduceAdd, Int.reduceSub, Int.reduceMul, Int.reduceNeg, Int.reduceLT, Int.reduceLE, Int.reduceEq, Int.reduceToNat, UInt8.reduceOfNat, reduceCtorEq, ← hb])
      exact hR.ro ⟨rfl, by rw [hbad (by rw [isD, decide_eq_false_iff_not]; omega)]⟩
    · by_cases h2 : 57 < b.toNat
      · simp (disch := first | omega | (simp only [List.length_append, List.length_cons, List.length_nil, List.length_set, List.length_map, List.length_take, List.length_drop, List.length_range, List.length_replicate, List.length_reverse]; omega)) only [go_sem, Nat.reduceBEq, Nat.reduceAdd, Nat.reduceSub, Nat.reduceMul, Nat.reduceLT, Nat.reduceLeDiff, Nat.reduceEqDiff, Int.reduceAdd, Int.reduceSub, Int.reduceMul, Int.reduceNeg, Int.reduceLT, Int.reduceLE, Int.reduceEq, Int.reduceToNat, UInt8.reduceOfNat, reduceCtorEq, ← hb]
        exact hR.ro ⟨rfl, by rw [hbad (by rw [isD, decide_eq_false_iff_not]; omega)]⟩
      · simp (disch := first | omega | (simp only [List.length_append, List.length_cons, List.length_nil, List.length_set, List.length_map, List.length_take, List.length_drop, List.length_range, List.length_replicate, List.length_reverse]; omega)) only [go_sem, Nat.reduceBEq, Nat.reduceAdd, Nat.reduceSub, Nat.reduceMul, Nat.reduceLT, Nat.reduceLeDiff, Nat.reduceEqDiff, Int.reduceAdd, Int.reduceSub, Int.reduceMul, Int.reduceNeg, Int.reduceLT, Int.reduceLE, Int.reduceEq, Int.reduceToNat, UInt8.reduceOfNat, reduceCtorEq, ← hb]
        refine hR1 (k + 1) _ (by omega) ⟨by omega, ?_⟩ (.le (by simp (disch := first | omega | (simp only [List.length_append, List.length_cons, List.length_nil, List.length_set, List.length_map, List.length_take, List.length_drop, List.length_range, List.length_replicate, List.length_reverse]; omega)) only [go_sem, Nat.reduceBEq, Nat.reduceAdd, Nat.reduceSub, Nat.reduceMul, Nat.reduceLT, Nat.reduceLeDiff, Nat.reduceEqDiff, Int.reduceAdd, Int.reduceSub, Int.reduceMul, Int.reduceNeg, Int.reduceLT, Int.reduceLE, Int.reduceEq, Int.reduceToNat, UInt8.reduceOfNat, reduceCtorEq]))
        rw [htk, List.all_append, hd]
        have : isD b = true := by rw [isD, decide_eq_true_iff]; omega
        simp [this]
  · obtain rfl : k = s.length := by omega
    rw [List.take_of_length_le (Nat.le_refl _)] at hd
    simp (disch := first | omega | (simp only [List.length_append, List.length_cons, List.length_nil, List.length_set, List.length_map, List.length_take, List.length_drop, List.length_range, List.length_replicate, List.length_reverse]; omega)) only [go_sem, Nat.reduceBEq, Nat.reduceAdd, Nat.reduceSub, Nat.reduceMul, Nat.reduceLT, Nat.reduceLeDiff, Nat.reduceEqDiff, Int.reduceAdd, Int.reduceSub, Int.reduceMul, Int.reduceNeg, Int.reduceLT, Int.reduceLE, Int.reduceEq, Int.reduceToNat, UInt8.reduceOfNat, reduceCtorEq]
    refine hR.ro ⟨rfl, ?_⟩
    rw [digB, hd]
    cases s with
    | nil => simp
    | cons x r => simp
def rnumB (s : Bs) : Bool := digB s && (decide (s.length = 1) || !decide ((s.getD 0 0).toNat = 48))
theorem rnumber_ok (s : Bs) (hs : s.length ≤ 9223372036854775807) : SpecR Tryd.prog 36 [.str s] (.bool (rnumB s)) := by
  refine Cod.rnumber_spec (fun E R hN hR => ?_)
  simp (disch := first | omega | (simp only [List.length_append, List.length_cons, List.length_nil, List.length_set, List.length_map, List.length_take, List.length_drop, List.length_range, List.length_replicate, List.length_reverse]; omega)) only [go_sem, Nat.reduceBEq, Nat.reduceAdd, Nat.reduceSub, Nat.reduceMul, Nat.reduceLT, Nat.reduceLeDiff, Nat.reduceEqDiff, Int.reduceAdd, Int.reduceSub, Int.reduceMul, Int.reduceNeg, Int.reduceLT, Int.reduceLE, Int.reduceEq, Int.reduceToNat, UInt8.reduceOfNat, reduceCtorEq]
  refine call_ro (rdigits_ok s hs) rfl rfl ?_
  cases hd : digB s with
  | false =>
    simp (disch := first | omega | (simp only [List.length_append, List.length_cons, List.length_nil, List.length_set, List.length_map, List.length_take, List.length_drop, List.length_range, List.length_replicate, List.length_reverse]; omega)) only [go_sem, Nat.reduceBEq, Nat.reduceAdd, Nat.reduceSub, Nat.reduceMul, Nat.reduceLT, Nat.reduceLeDiff, Nat.reduceEqDiff, Int.reduceAdd, Int.reduceSub, Int.reduceMul, Int.reduceNeg, Int.reduceLT, Int.reduceLE, Int.reduceEq, Int.reduceToNat, UInt8.reduceOfNat, reduceCtorEq]
    (repeat (first | (with_reducible refine gskip_of ?_) | (with_reducible refine gcskip_of ?_) | (with_reducible refine gopen_of ?_)) <;> simp (disch := first | omega | (simp only [List.length_append, List.length_cons, List.length_nil, List.length_set, List.length_map, List.length_take, List.length_drop, List.length_range, List.length_replicate, List.length_reverse]; omega)) only [go_sem, Nat.reduceBEq, Nat.reduceAdd, Nat.reduceSub, Nat.reduceMul, Nat.reduceLT, Nat.reduceLeDiff, Nat.reduceEqDiff, Int.reduceAdd, Int.reduceSub, Int.reduceMul, Int.reduceNeg, Int.reduceLT, Int.reduceLE, Int.reduceEq, Int.reduceToNat, UInt8.reduceOfNat, reduceCtorEq])
    exact hR.ro ⟨rfl, by rw [rnumB, hd, Bool.false_and]⟩
  | true =>
    have h0 : 0 < s.length := by
      cases s with
      | nil => simp [digB] at hd
      | cons x r => simp
    by_cases h1 : s.length = 1
    · simp (disch := first | omega | (simp only [List.length_append, List.length_cons, List.length_nil, List.length_set, List.length_map, List.length_take, List.length_drop, List.length_range, List.length_replicate, List.length_reverse]; omega)) only [go_sem, Nat.reduceBEq, Nat.reduceAdd, Nat.reduceSub, Nat.reduceMul, Nat.reduceLT, Nat.reduceLeDiff, Nat.reduceEqDiff, Int.reduceAdd, Int.reduceSub, Int.reduceMul, Int.reduceNeg, Int.reduceLT, Int.reduceLE, Int.reduceEq, Int.reduceToNat, UInt8.reduceOfNat, reduceCtorEq]
      (repeat (first | (with_reducible refine gskip_of ?_) | (with_reducible refine gcskip_of ?_) | (with_reducible refine gopen_of ?_)) <;> simp (disch := first | omega | (simp only [List.length_append, List.length_cons, List.length_nil, List.length_set, List.length_map, List.length_take, List.length_drop, List.length_range, List.length_replicate, List.length_reverse]; omega)) only [go_sem, Nat.reduceBEq, Nat.reduceAdd, Nat.reduceSub, Nat.reduceMul, Nat.reduceLT, Nat.reduceLeDiff, Nat.reduceEqDiff, Int.reduceAdd, Int.reduceSub, Int.reduceMul, Int.reduceNeg, Int.reduceLT, Int.reduceLE, Int.reduceEq, Int.reduceToNat, UInt8.reduceOfNat, reduceCtorEq])
      exact hR.ro ⟨rfl, by rw [rnumB, hd, h1]; rfl⟩
    · by_cases h2 : (s.getD 0 0).toNat = 48
      · simp (disch := first | omega | (simp only [List.length_append, List.length_cons, List.length_nil, List.length_set, List.length_map, List.length_take, List.length_drop, List.length_range, List.length_replicate, List.length_reverse]; omega)) only [go_sem, Nat.reduceBEq, Nat.reduceAdd, Nat.reduceSub, Nat.reduceMul, Nat.reduceLT, Nat.reduceLeDiff, Nat.reduceEqDiff, Int.reduceAdd, Int.reduceSub, Int.reduceMul, Int.reduceNeg, Int.reduceLT, Int.reduceLE, Int.reduceEq, Int.reduceToNat, UInt8.reduceOfNat, reduceCtorEq]
        exact hR.ro ⟨rfl, by unfold rnumB; rw [hd, decide_eq_true h2]; simp [h1]⟩
      · simp (disch := first | omega | (simp only [List.length_append, List.length_cons, List.length_nil, List.length_set, List.length_map, List.length_take, List.length_drop, List.length_range, List.length_replicate, List.length_reverse]; omega)) only [go_sem, Nat.reduceBEq, Nat.reduceAdd, Nat.reduceSub, Nat.reduceMul, Nat.reduceLT, Nat.reduceLeDiff, Nat.reduceEqDiff, Int.reduceAdd, Int.reduceSub, Int.reduceMul, Int.reduceNeg, Int.reduceLT, Int.reduceLE, Int.reduceEq, Int.reduceToNat, UInt8.reduceOfNat, reduceCtorEq]
        exact hR.ro ⟨rfl, by unfold rnumB; rw [hd, decide_eq_false h2]; simp⟩
theorem wbad_ref {pre : Bool} {w : Bs} (h : w ≠ []) : wbad pre w = (pre && digB w && !rnumB w) := by
  have : 0 < w.length := List.length_pos_iff.2 h
  unfold wbad rnumB
  rw [decide_eq_false h]
  cases hd : digB w
  · simp
  · by_cases h1 : w.length = 1
    · simp [h1]
    · have : 1 < w.length := by omega
      simp only [Bool.true_and, Bool.and_true, Bool.false_or, h1, this, decide_true, decide_false]
      cases pre
      · rfl
      · cases decide ((w.getD 0 0).toNat = 48) <;> rfl
set_option maxHeartbeats 1000000 in
theorem rwords_ok (s : Bs) (pre : Bool) (hs : s.length ≤ 1000) : SpecR Tryd.prog 35 [.str s, .bool pre] (.bool (wordsP s pre)) := by
  refine Cod.rwords_spec (fun E R hN hR => ?_)
  simp (disch := first | omega | (simp only [List.length_append, List.length_cons, List.length_nil, List.length_set, List.length_map, List.length_take, List.length_drop, List.length_range, List.length_replicate, List.length_reverse]; omega)) only [go_sem, Nat.reduceBEq, Nat.reduceAdd, Nat.reduceSub, Nat.reduceMul, Nat.reduceLT, Nat.reduceLeDiff, Nat.reduceEqDiff, Int.reduceAdd, Int.reduceSub, Int.reduceMul, Int.reduceNeg, Int.reduceLT, Int.reduceLE, Int.reduceEq, Int.reduceToNat, UInt8.reduceOfNat, reduceCtorEq]
  refine call_bor [] (bs := [.str s, .int .u8 46]) (by simp (disch := first | omega | (simp only [List.length_append, List.length_cons, List.length_nil, List.length_set, List.length_map, List.length_take, List.length_drop, List.length_range, List.length_replicate, List.length_reverse]; omega)) only [go_sem, Nat.reduceBEq, Nat.reduceAdd, Nat.reduceSub, Nat.reduceMul, Nat.reduceLT, Nat.reduceLeDiff, Nat.reduceEqDiff, Int.reduceAdd, Int.reduceSub, Int.reduceMul, Int.reduceNeg, Int.reduceLT, Int.reduceLE, Int.reduceEq, Int.reduceToNat, UInt8.reduceOfNat, reduceCtorEq]) (rcut_ok s 46 hs) trivial nofun ?_
  rintro h' v ar ⟨rfl, rfl, rfl⟩
  refine ⟨by simp (disch := first | omega | (simp only [List.length_append, List.length_cons, List.length_nil, List.length_set, List.length_map, List.length_take, List.length_drop, List.length_range, List.length_replicate, List.length_reverse]; omega)) only [go_sem, Nat.reduceBEq, Nat.reduceAdd, Nat.reduceSub, Nat.reduceMul, Nat.reduceLT, Nat.reduceLeDiff, Nat.reduceEqDiff, Int.reduceAdd, Int.reduceSub, Int.reduceMul, Int.reduceNeg, Int.reduceLT, Int.reduceLE, Int.reduceEq, Int.reduceToNat, UInt8.reduceOfNat, reduceCtorEq], rfl, ?_⟩
  have hll := (splitB_lenle 46 s).1
  have hwl := splitB_len 46 s
  rw [wordsP] at hR
  obtain ⟨L, hL⟩ : ∃ L, L = splitB 46 s := ⟨_, rfl⟩
  rw [← hL] at hll hwl hR ⊢
  simp (disch := first | omega | (simp only [List.length_append, List.length_cons, List.length_nil, List.length_set, List.length_map, List.length_take, List.length_drop, List.length_range, List.length_replicate, List.length_reverse]; omega)) only [go_sem, Nat.reduceBEq, Nat.reduceAdd, Nat.reduceSub, Nat.reduceMul, Nat.reduceLT, Nat.reduceLeDiff, Nat.reduceEqDiff, Int.reduceAdd, Int.reduceSub, Int.reduceMul, Int.reduceNeg, Int.reduceLT, Int.reduceLE, Int.reduceEq, Int.reduceToNat, UInt8.reduceOfNat, reduceCtorEq]
  refine vcW_loop hN (fun k : Nat => ⟨[(1, .bool pre), (10, .sl 13021 0 L.length), (11, .int .i64 L.length), (12, .int .i64 k)], [(13021, .arr 1 (L.map AV.str))]⟩) (fun k => k ≤ L.length ∧ (L.take k).all (wordOK pre) = true) (fun k => L.length - k) 0 (.le (by simp (disch := first | omega | (simp only [List.length_append, List.length_cons, List.length_nil, List.length_set, List.length_map, List.length_take, List.length_drop, List.length_range, List.length_replicate, List.length_reverse]; omega)) only [go_sem, Nat.reduceBEq, Nat.reduceAdd, Nat.reduceSub, Nat.reduceMul, Nat.reduceLT, Nat.reduceLeDiff, Nat.reduceEqDiff, Int.reduceAdd, Int.reduceSub, Int.reduceMul, Int.reduceNeg, Int.reduceLT, Int.reduceLE, Int.reduceEq, Int.reduceToNat, UInt8.reduceOfNat, reduceCtorEq])) (by simp) ?_
  rintro k R2 ⟨hk, hok⟩ hR2
  by_cases hl : k < L.length
  · have hwm := getD_memB hl
    have hw1 := hwl _ hwm
    have htk := take_succB [] L hl
    obtain ⟨w, hw⟩ : ∃ w, w = L.getD k [] := ⟨_, rfl⟩
    rw [← hw] at hwm hw1 htk
    have bad : ∀ h, wordOK pre w = false → R h (.bool false) [.undef, .undef] := fun h hno =>
      hR.wk (h' := []) (r' := .bool false) (ar' := [.undef, .undef]) rfl (.le (by simp (disch := first | omega | (simp only [List.length_append, List.length_cons, List.length_nil, List.length_set, List.length_map, List.length_take, List.length_drop, List.length_range, List.length_replicate, List.length_reverse]; omega)) only [go_sem, Nat.reduceBEq, Nat.reduceAdd, Nat.reduceSub, Nat.reduceMul, Nat.reduceLT, Nat.reduceLeDiff, Nat.reduceEqDiff, Int.reduceAdd, Int.reduceSub, Int.reduceMul, Int.reduceNeg, Int.reduceLT, Int.reduceLE, Int.reduceEq, Int.reduceToNat, UInt8.reduceOfNat, reduceCtorEq])) ⟨rfl, by rw [not_all hwm hno]⟩
    have yes : wbad pre w = true → wordOK pre w = false := fun h => by unfold wordOK; rw [h]; rfl
    have good : wbad pre w = false → vcW Tryd.prog E Cod.rwords_L1 (KQ.blk 2 (KQ.blk 1 (KQ.seq Tryd.prog E Cod.rwords_8 (KQ.rnd R2 (KQ.blk 0 (KQ.seq Tryd.prog E Cod.rwords_2 (KQ.post [RVar.tmp 4] 2 R)))))))
        ⟨[(1, .bool pre), (6, .str w), (7, .int .i64 0), (10, .sl 13021 0 L.length), (11, .int .i64 L.length), (12, .int .i64 k)], [(13021, .arr 1 (L.map AV.str))]⟩ := by
      intro hno
      refine vcW_loop hN (fun j : Nat => ⟨[(1, .bool pre), (6, .str w), (7, .int .i64 j), (10, .sl 13021 0 L.length), (11, .int .i64 L.length), (12, .int .i64 k)], [(13021, .arr 1 (L.map AV.str))]⟩)
        (fun j => j ≤ w.length ∧ (w.take j).all chOK = true) (fun j => w.length - j) 0 (.le (by simp (disch := first | omega | (simp only [List.length_append, List.length_cons, List.length_nil, List.length_set, List.length_map, List.length_take, List.length_drop, List.length_range, List.length_replicate, List.length_reverse]; omega)) only [go_sem, Nat.reduceBEq, Nat.reduceAdd, Nat.reduceSub, Nat.reduceMul, Nat.reduceLT, Nat.reduceLeDiff, Nat.reduceEqDiff, Int.reduceAdd, Int.reduceSub, Int.reduceMul, Int.reduceNeg, Int.reduceLT, Int.reduceLE, Int.reduceEq, Int.reduceToNat, UInt8.reduceOfNat, reduceCtorEq])) ⟨by omega, by simp⟩ ?_
      rintro j R3 ⟨hj, hc⟩ hR3
      by_cases hlt : j < w.length
      · have htj := take_succB 0 w hlt
        have hmem : w.getD j 0 ∈ w := by
          rw [List.getD_eq_getElem?_getD, List.getElem?_eq_getElem hlt]; exact List.getElem_mem hlt
        obtain ⟨x, hx0⟩ : ∃ x, x = w.getD j 0 := ⟨_, rfl⟩
        rw [← hx0] at htj hmem
        simp (disch := first | omega | (simp only [List.length_append, List.length_cons, List.length_nil, List.length_set, List.length_map, List.length_take, List.length_drop, List.length_range, List.length_replicate, List.length_reverse]; omega)) only [go_sem, Nat.reduceBEq, Nat.reduceAdd, Nat.reduceSub, Nat.reduceMul, Nat.reduceLT, Nat.reduceLeDiff, Nat.reduceEqDiff, Int.reduceAdd, Int.reduceSub, Int.reduceMul, Int.reduceNeg, Int.reduceLT, Int.reduceLE, Int.reduceEq, Int.reduceToNat, UInt8.reduceOfNat, reduceCtorEq, ← hx0]
        (repeat (first | (with_reducible refine gskip_of ?_) | (with_reducible refine gcskip_of ?_) | (with_reducible refine gopen_of ?_)) <;> simp (disch := first | omega | (simp only [List.length_append, List.length_cons, List.length_nil, List.length_set, List.length_map, List.length_take, List.length_drop, List.length_range, List.length_replicate, List.length_reverse]; omega)) only [go_sem, Nat.reduceBEq, Nat.reduceAdd, Nat.reduceSub, Nat.reduceMul, Nat.reduceLT, Nat.reduceLeDiff, Nat.reduceEqDiff, Int.reduceAdd, Int.reduceSub, Int.reduceMul, Int.reduceNeg, Int.reduceLT, Int.reduceLE, Int.reduceEq, Int.reduceToNat, UInt8.reduceOfNat, reduceCtorEq, ← hx0])
        refine ifW_dec (fun he => ?_) (fun he => ?_)
        · have : chOK x = false := by
            rw [chOK, decide_eq_false_iff_not]
            simp at he
            omega
          simp (disch := first | omega | (simp only [List.length_append, List.length_cons, List.length_nil, List.length_set, List.length_map, List.length_take, List.length_drop, List.length_range, List.length_replicate, List.length_reverse]; omega)) only [go_sem, Nat.reduceBEq, Nat.reduceAdd, Nat.reduceSub, Nat.reduceMul, Nat.reduceLT, Nat.reduceLeDiff, Nat.reduceEqDiff, Int.reduceAdd, Int.reduceSub, Int.reduceMul, Int.reduceNeg, Int.reduceLT, Int.reduceLE, Int.reduceEq, Int.reduceToNat, UInt8.reduceOfNat, reduceCtorEq]
          exact bad _ (by unfold wordOK; rw [not_all hmem this, Bool.and_false])
        · simp (disch := first | omega | (simp only [List.length_append, List.length_cons, List.length_nil, List.length_set, List.length_map, List.length_take, List.length_drop, List.length_range, List.length_replicate, List.length_reverse]; omega)) only [go_sem, Nat.reduceBEq, Nat.reduceAdd, Nat.reduceSub, Nat.reduceMul, Nat.reduceLT, Nat.reduceLeDiff, Nat.reduceEqDiff, Int.reduceAdd, Int.reduceSub, Int.reduceMul, Int.reduceNeg, Int.reduceLT, Int.reduceLE, Int.reduceEq, Int.reduceToNat, UInt8.reduceOfNat, reduceCtorEq]
          refine hR3 (j + 1) _ (by omega) ⟨by omega, ?_⟩ (.le (by simp (disch := first | omega | (simp only [List.length_append, List.length_cons, List.length_nil, List.length_set, List.length_map, List.length_take, List.length_drop, List.length_range, List.length_replicate, List.length_reverse]; omega)) only [go_sem, Nat.reduceBEq, Nat.reduceAdd, Nat.reduceSub, Nat.reduceMul, Nat.reduceLT, Nat.reduceLeDiff, Nat.reduceEqDiff, Int.reduceAdd, Int.reduceSub, Int.reduceMul, Int.reduceNeg, Int.reduceLT, Int.reduceLE, Int.reduceEq, Int.reduceToNat, UInt8.reduceOfNat, reduceCtorEq]))
          rw [htj, List.all_append, hc]
          have : chOK x = true := by
            rw [chOK, decide_eq_true_iff]
            simp at he
            omega
          simp [this]
      · obtain rfl : j = w.length := by omega
        rw [List.take_of_length_le (Nat.le_refl _)] at hc
        have hwok : wordOK pre w = true := by unfold wordOK; rw [hno, hc]; rfl
        simp (disch := first | omega | (simp only [List.length_append, List.length_cons, List.length_nil, List.length_set, List.length_map, List.length_take, List.length_drop, List.length_range, List.length_replicate, List.length_reverse]; omega)) only [go_sem, Nat.reduceBEq, Nat.reduceAdd, Nat.reduceSub, Nat.reduceMul, Nat.reduceLT, Nat.reduceLeDiff, Nat.reduceEqDiff, Int.reduceAdd, Int.reduceSub, Int.reduceMul, Int.reduceNeg, Int.reduceLT, Int.reduceLE, Int.reduceEq, Int.reduceToNat, UInt8.reduceOfNat, reduceCtorEq]
        exact hR2 (k + 1) _ (by omega) ⟨by omega, by rw [htk, List.all_append, hok]; simp [hwok]⟩ (.le (by simp (disch := first | omega | (simp only [List.length_append, List.length_cons, List.length_nil, List.length_set, List.length_map, List.length_take, List.length_drop, List.length_range, List.length_replicate, List.length_reverse]; omega)) only [go_sem, Nat.reduceBEq, Nat.reduceAdd, Nat.reduceSub, Nat.reduceMul, Nat.reduceLT, Nat.reduceLeDiff, Nat.reduceEqDiff, Int.reduceAdd, Int.reduceSub, Int.reduceMul, Int.reduceNeg, Int.reduceLT, Int.reduceLE, Int.reduceEq, Int.reduceToNat, UInt8.reduceOfNat, reduceCtorEq]))
    by_cases hw0 : w = []
    · subst hw0
      simp (disch := first | omega | (simp only [List.length_append, List.length_cons, List.length_nil, List.length_set, List.length_map, List.length_take, List.length_drop, List.length_range, List.length_replicate, List.length_reverse]; omega)) only [go_sem, Nat.reduceBEq, Nat.reduceAdd, Nat.reduceSub, Nat.reduceMul, Nat.reduceLT, Nat.reduceLeDiff, Nat.reduceEqDiff, Int.reduceAdd, Int.reduceSub, Int.reduceMul, Int.reduceNeg, Int.reduceLT, Int.reduceLE, Int.reduceEq, Int.reduceToNat, UInt8.reduceOfNat, reduceCtorEq, ← hw]
      (repeat (first | (with_reducible refine gskip_of ?_) | (with_reducible refine gcskip_of ?_) | (with_reducible refine gopen_of ?_)) <;> simp (disch := first | omega | (simp only [List.length_append, List.length_cons, List.length_nil, List.length_set, List.length_map, List.length_take, List.length_drop, List.length_range, List.length_replicate, List.length_reverse]; omega)) only [go_sem, Nat.reduceBEq, Nat.reduceAdd, Nat.reduceSub, Nat.reduceMul, Nat.reduceLT, Nat.reduceLeDiff, Nat.reduceEqDiff, Int.reduceAdd, Int.reduceSub, Int.reduceMul, Int.reduceNeg, Int.reduceLT, Int.reduceLE, Int.reduceEq, Int.reduceToNat, UInt8.reduceOfNat, reduceCtorEq, ← hw])
      exact bad _ (yes (by simp [wbad]))
    · have hwr := wbad_ref (pre := pre) hw0
      cases pre with
      | false =>
        simp (disch := first | omega | (simp only [List.length_append, List.length_cons, List.length_nil, List.length_set, List.length_map, List.length_take, List.length_drop, List.length_range, List.length_replicate, List.length_reverse]; omega)) only [go_sem, Nat.reduceBEq, Nat.reduceAdd, Nat.reduceSub, Nat.reduceMul, Nat.reduceLT, Nat.reduceLeDiff, Nat.reduceEqDiff, Int.reduceAdd, Int.reduceSub, Int.reduceMul, Int.reduceNeg, Int.reduceLT, Int.reduceLE, Int.reduceEq, Int.reduceToNat, UInt8.reduceOfNat, reduceCtorEq, ← hw, hw0]
        (repeat (first | (with_reducible refine gskip_of ?_) | (with_reducible refine gcskip_of ?_) | (with_reducible refine gopen_of ?_)) <;> simp (disch := first | omega | (simp only [List.length_append, List.length_cons, List.length_nil, List.length_set, List.length_map, List.length_take, List.length_drop, List.length_range, List.length_replicate, List.length_reverse]; omega)) only [go_sem, Nat.reduceBEq, Nat.reduceAdd, Nat.reduceSub, Nat.reduceMul, Nat.reduceLT, Nat.reduceLeDiff, Nat.reduceEqDiff, Int.reduceAdd, Int.reduceSub, Int.reduceMul, Int.reduceNeg, Int.reduceLT, Int.reduceLE, Int.reduceEq, Int.reduceToNat, UInt8.reduceOfNat, reduceCtorEq, ← hw, hw0])
        exact good (by rw [hwr]; rfl)
      | true =>
        simp (disch := first | omega | (simp only [List.length_append, List.length_cons, List.length_nil, List.length_set, List.length_map, List.length_take, List.length_drop, List.length_range, List.length_replicate, List.length_reverse]; omega)) only [go_sem, Nat.reduceBEq, Nat.reduceAdd, Nat.reduceSub, Nat.reduceMul, Nat.reduceLT, Nat.reduceLeDiff, Nat.reduceEqDiff, Int.reduceAdd, Int.reduceSub, Int.reduceMul, Int.reduceNeg, Int.reduceLT, Int.reduceLE, Int.reduceEq, Int.reduceToNat, UInt8.reduceOfNat, reduceCtorEq, ← hw, hw0]
        refine gcyes_of (callT_ro (by simp (disch := first | omega | (simp only [List.length_append, List.length_cons, List.length_nil, List.length_set, List.length_map, List.length_take, List.length_drop, List.length_range, List.length_replicate, List.length_reverse]; omega)) only [go_sem, Nat.reduceBEq, Nat.reduceAdd, Nat.reduceSub, Nat.reduceMul, Nat.reduceLT, Nat.reduceLeDiff, Nat.reduceEqDiff, Int.reduceAdd, Int.reduceSub, Int.reduceMul, Int.reduceNeg, Int.reduceLT, Int.reduceLE, Int.reduceEq, Int.reduceToNat, UInt8.reduceOfNat, reduceCtorEq]) (rdigits_ok w (by omega)) (by simp (disch := first | omega | (simp only [List.length_append, List.length_cons, List.length_nil, List.length_set, List.length_map, List.length_take, List.length_drop, List.length_range, List.length_replicate, List.length_reverse]; omega)) only [go_sem, Nat.reduceBEq, Nat.reduceAdd, Nat.reduceSub, Nat.reduceMul, Nat.reduceLT, Nat.reduceLeDiff, Nat.reduceEqDiff, Int.reduceAdd, Int.reduceSub, Int.reduceMul, Int.reduceNeg, Int.reduceLT, Int.reduceLE, Int.reduceEq, Int.reduceToNat, UInt8.reduceOfNat, reduceCtorEq]) rfl rfl ?_)
        cases hd : digB w with
        | false =>
          rw [hd] at hwr
          simp (disch := first | omega | (simp only [List.length_append, List.length_cons, List.length_nil, List.length_set, List.length_map, List.length_take, List.length_drop, List.length_range, List.length_replicate, List.length_reverse]; omega)) only [go_sem, Nat.reduceBEq, Nat.reduceAdd, Nat.reduceSub, Nat.reduceMul, Nat.reduceLT, Nat.reduceLeDiff, Nat.reduceEqDiff, Int.reduceAdd, Int.reduceSub, Int.reduceMul, Int.reduceNeg, Int.reduceLT, Int.reduceLE, Int.reduceEq, Int.reduceToNat, UInt8.reduceOfNat, reduceCtorEq, hw0]
          (repeat (first | (with_reducible refine gskip_of ?_) | (with_reducible refine gcskip_of ?_) | (with_reducible refine gopen_of ?_)) <;> simp (disch := first | omega | (simp only [List.length_append, List.length_cons, List.length_nil, List.length_set, List.length_map, List.length_take, List.length_drop, List.length_range, List.length_replicate, List.length_reverse]; omega)) only [go_sem, Nat.reduceBEq, Nat.reduceAdd, Nat.reduceSub, Nat.reduceMul, Nat.reduceLT, Nat.reduceLeDiff, Nat.reduceEqDiff, Int.reduceAdd, Int.reduceSub, Int.reduceMul, Int.reduceNeg, Int.reduceLT, Int.reduceLE, Int.reduceEq, Int.reduceToNat, UInt8.reduceOfNat, reduceCtorEq, hw0])
          exact good (by rw [hwr]; rfl)
        | true =>
          rw [hd] at hwr
          simp (disch := first | omega | (simp only [List.length_append, List.length_cons, List.length_nil, List.length_set, List.length_map, List.length_take, List.length_drop, List.length_range, List.length_replicate, List.length_reverse]; omega)) only [go_sem, Nat.reduceBEq, Nat.reduceAdd, Nat.reduceSub, Nat.reduceMul, Nat.reduceLT, Nat.reduceLeDiff, Nat.reduceEqDiff, Int.reduceAdd, Int.reduceSub, Int.reduceMul, Int.reduceNeg, Int.reduceLT, Int.reduceLE, Int.reduceEq, Int.reduceToNat, UInt8.reduceOfNat, reduceCtorEq, hw0]
          refine gcyes_of (callT_ro (by simp (disch := first | omega | (simp only [List.length_append, List.length_cons, List.length_nil, List.length_set, List.length_map, List.length_take, List.length_drop, List.length_range, List.length_replicate, List.length_reverse]; omega)) only [go_sem, Nat.reduceBEq, Nat.reduceAdd, Nat.reduceSub, Nat.reduceMul, Nat.reduceLT, Nat.reduceLeDiff, Nat.reduceEqDiff, Int.reduceAdd, Int.reduceSub, Int.reduceMul, Int.reduceNeg, Int.reduceLT, Int.reduceLE, Int.reduceEq, Int.reduceToNat, UInt8.reduceOfNat, reduceCtorEq]) (rnumber_ok w (by omega)) (by simp (disch := first | omega | (simp only [List.length_append, List.length_cons, List.length_nil, List.length_set, List.length_map, List.length_take, List.length_drop, List.length_range, List.length_replicate, List.length_reverse]; omega)) only [go_sem, Nat.reduceBEq, Nat.reduceAdd, Nat.reduceSub, Nat.reduceMul, Nat.reduceLT, Nat.reduceLeDiff, Nat.reduceEqDiff, Int.reduceAdd, Int.reduceSub, Int.reduceMul, Int.reduceNeg, Int.reduceLT, Int.reduceLE, Int.reduceEq, Int.reduceToNat, UInt8.reduceOfNat, reduceCtorEq]) rfl rfl ?_)
          cases hn : rnumB w with
          | false =>
            rw [hn] at hwr
            simp (disch := first | omega | (simp only [List.length_append, List.length_cons, List.length_nil, List.length_set, List.length_map, List.length_take, List.length_drop, List.length_range, List.length_replicate, List.length_reverse]; omega)) only [go_sem, Nat.reduceBEq, Nat.reduceAdd, Nat.reduceSub, Nat.reduceMul, Nat.reduceLT, Nat.reduceLeDiff, Nat.reduceEqDiff, Int.reduceAdd, Int.reduceSub, Int.reduceMul, Int.reduceNeg, Int.reduceLT, Int.reduceLE, Int.reduceEq, Int.reduceToNat, UInt8.reduceOfNat, reduceCtorEq, hw0]
            exact bad _ (yes (by rw [hwr]; rfl))
          | true =>
            rw [hn] at hwr
            simp (disch := first | omega | (simp only [List.length_append, List.length_cons, List.length_nil, List.length_set, List.length_map, List.length_take, List.length_drop, List.length_range, List.length_replicate, List.length_reverse]; omega)) only [go_sem, Nat.reduceBEq, Nat.reduceAdd, Nat.reduceSub, Nat.reduceMul, Nat.reduceLT, Nat.reduceLeDiff, Nat.reduceEqDiff, Int.reduceAdd, Int.reduceSub, Int.reduceMul, Int.reduceNeg, Int.reduceLT, Int.reduceLE, Int.reduceEq, Int.reduceToNat, UInt8.reduceOfNat, reduceCtorEq, hw0]
            exact good (by rw [hwr]; rfl)
  · obtain rfl : k = L.length := by omega
    rw [List.take_of_length_le (Nat.le_refl _)] at hok
    simp (disch := first | omega | (simp only [List.length_append, List.length_cons, List.length_nil, List.length_set, List.length_map, List.length_take, List.length_drop, List.length_range, List.length_replicate, List.length_reverse]; omega)) only [go_sem, Nat.reduceBEq, Nat.reduceAdd, Nat.reduceSub, Nat.reduceMul, Nat.reduceLT, Nat.reduceLeDiff, Nat.reduceEqDiff, Int.reduceAdd, Int.reduceSub, Int.reduceMul, Int.reduceNeg, Int.reduceLT, Int.reduceLE, Int.reduceEq, Int.reduceToNat, UInt8.reduceOfNat, reduceCtorEq]
    exact hR.wk (h' := []) (r' := .bool true) (ar' := [.undef, .undef]) rfl (.le (by simp (disch := first | omega | (simp only [List.length_append, List.length_cons, List.length_nil, List.length_set, List.length_map, List.length_take, List.length_drop, List.length_range, List.length_replicate, List.length_reverse]; omega)) only [go_sem, Nat.reduceBEq, Nat.reduceAdd, Nat.reduceSub, Nat.reduceMul, Nat.reduceLT, Nat.reduceLeDiff, Nat.reduceEqDiff, Int.reduceAdd, Int.reduceSub, Int.reduceMul, Int.reduceNeg, Int.reduceLT, Int.reduceLE, Int.reduceEq, Int.reduceToNat, UInt8.reduceOfNat, reduceCtorEq])) ⟨rfl, by rw [hok]⟩
end Go.Proofs.YtjjhicejabggdaaDoor.Sv
