/- semver: what it calls of the library; numbers, digits. -/
import Derived.Test.YtjjhicejabggdaaDoorSvCode
import Derived.Test.YtjjhicejabggdaaDoorSvIter
set_option linter.all false
namespace Go.Proofs.YtjjhicejabggdaaDoor.Sv
open Eng
set_option maxRecDepth 10000
abbrev Bs := List UInt8
theorem compareS_ok (a b : Bs) : SpecR Tryd.prog 39 [.str a, .str b] (.int .i64 (Lib.compareBytes a b)) :=
  spec_same rfl rfl (fun w => Tryd.strings_Compare ⟨a.toArray⟩ ⟨b.toArray⟩ w)
theorem index1_ok (s : Bs) (c : UInt8) : SpecR Tryd.prog 47 [.str s, .str [c]] (.int .i64 (Lib.indexByte s c)) :=
  spec_same rfl rfl (fun w => Tryd.stringslite_Index_one ⟨s.toArray⟩ c w)
def decs : Bs := [48, 49, 50, 51, 52, 53, 54, 55, 56, 57]
theorem trim_ok (s : Bs) (hs : s.length ≤ 9223372036854775807) : SpecR Tryd.prog 45 [.str s, .str decs] (.str (Lib.trimS s decs)) :=
  spec_below rfl rfl (fun w => Any.strings_Trim_laid Tryd.lays160 (by kernel_rfl) ⟨s.toArray⟩ ⟨decs.toArray⟩ w (by simpa [ByteArray.size] using hs) (by decide) (ascii_of_all (by decide)))
/-- cut at the first c -/
def cutP (c : UInt8) : Bs → Bs × Bs × Bool
  | [] => ([], [], false)
  | x :: r => if x = c then ([], r, true) else (x :: (cutP c r).1, (cutP c r).2)
theorem cutP_index (c : UInt8) : ∀ s : Bs, (Lib.indexByte s c = -1 ∧ cutP c s = (s, [], false)) ∨ ∃ j : Nat, j < s.length ∧ Lib.indexByte s c = (j : Int) ∧ cutP c s = (s.take j, s.drop (j + 1), true)
  | [] => .inl ⟨rfl, rfl⟩
  | x :: r => by
    by_cases hx : x = c
    · subst hx
      exact .inr ⟨0, by simp, by simp [Lib.indexByte], by simp [cutP]⟩
    · have hb : (x == c) = false := by simp [hx]
      rcases cutP_index c r with ⟨h1, h2⟩ | ⟨j, h1, h2, h3⟩
      · refine .inl ⟨by simp [Lib.indexByte, hb, h1], by simp [cutP, hx, h2]⟩
      · refine .inr ⟨j + 1, by simp; omega, ?_, by simp [cutP, hx, h3]⟩
        have hne : (Lib.indexByte r c == -1) = false := by rw [h2]; simp
        simp [Lib.indexByte, hb, hne, h2]
def cutA (q : Bs × Bs × Bool) : AV := .tup [.str q.1, .str q.2.1, .bool q.2.2]
theorem lcut_ok (s : Bs) (c : UInt8) (hs : s.length ≤ 9223372036854775807) : SpecR Tryd.prog 42 [.str s, .str [c]] (cutA (cutP c s)) := by
  refine Cod.lcut_spec (fun E R hN hR => ?_)
  simp (disch := first | omega | (simp only [List.length_append, List.length_cons, List.length_nil, List.length_set, List.length_map, List.length_take, List.length_drop, List.length_range, List.length_replicate, List.length_reverse]; omega)) only [go_sem, Nat.reduceBEq, Nat.reduceAdd, Nat.reduceSub, Nat.reduceMul, Nat.reduceLT, Nat.reduceLeDiff, Nat.reduceEqDiff, Int.reduceAdd, Int.reduceSub, Int.reduceMul, Int.reduceNeg, Int.reduceLT, Int.reduceLE, Int.reduceEq, Int.reduceToNat, UInt8.reduceOfNat, reduceCtorEq]
  refine call_ro (index1_ok s c) rfl rfl ?_
  rcases cutP_index c s with ⟨h1, h2⟩ | ⟨j, h1, h2, h3⟩
  · simp (disch := first | omega | (simp only [List.length_append, List.length_cons, List.length_nil, List.length_set, List.length_map, List.length_take, List.length_drop, List.length_range, List.length_replicate, List.length_reverse]; omega)) only [go_sem, Nat.reduceBEq, Nat.reduceAdd, Nat.reduceSub, Nat.reduceMul, Nat.reduceLT, Nat.reduceLeDiff, Nat.reduceEqDiff, Int.reduceAdd, Int.reduceSub, Int.reduceMul, Int.reduceNeg, Int.reduceLT, Int.reduceLE, Int.reduceEq, Int.reduceToNat, UInt8.reduceOfNat, reduceCtorEq, h1]
    exact hR.ro ⟨rfl, by rw [h2]; rfl⟩
  · simp (disch := first | omega | (simp only [List.length_append, List.length_cons, List.length_nil, List.length_set, List.length_map, List.length_take, List.length_drop, List.length_range, List.length_replicate, List.length_reverse]; omega)) only [go_sem, Nat.reduceBEq, Nat.reduceAdd, Nat.reduceSub, Nat.reduceMul, Nat.reduceLT, Nat.reduceLeDiff, Nat.reduceEqDiff, Int.reduceAdd, Int.reduceSub, Int.reduceMul, Int.reduceNeg, Int.reduceLT, Int.reduceLE, Int.reduceEq, Int.reduceToNat, UInt8.reduceOfNat, reduceCtorEq, h2]
    exact hR.ro ⟨rfl, by rw [h3]; rfl⟩
theorem cut_ok (s : Bs) (c : UInt8) (hs : s.length ≤ 9223372036854775807) : SpecR Tryd.prog 27 [.str s, .str [c]] (cutA (cutP c s)) := by
  refine Cod.scut_spec (fun E R hN hR => ?_)
  simp (disch := first | omega | (simp only [List.length_append, List.length_cons, List.length_nil, List.length_set, List.length_map, List.length_take, List.length_drop, List.length_range, List.length_replicate, List.length_reverse]; omega)) only [go_sem, Nat.reduceBEq, Nat.reduceAdd, Nat.reduceSub, Nat.reduceMul, Nat.reduceLT, Nat.reduceLeDiff, Nat.reduceEqDiff, Int.reduceAdd, Int.reduceSub, Int.reduceMul, Int.reduceNeg, Int.reduceLT, Int.reduceLE, Int.reduceEq, Int.reduceToNat, UInt8.reduceOfNat, reduceCtorEq]
  refine call_ro (lcut_ok s c hs) rfl rfl ?_
  simp (disch := first | omega | (simp only [List.length_append, List.length_cons, List.length_nil, List.length_set, List.length_map, List.length_take, List.length_drop, List.length_range, List.length_replicate, List.length_reverse]; omega)) only [go_sem, Nat.reduceBEq, Nat.reduceAdd, Nat.reduceSub, Nat.reduceMul, Nat.reduceLT, Nat.reduceLeDiff, Nat.reduceEqDiff, Int.reduceAdd, Int.reduceSub, Int.reduceMul, Int.reduceNeg, Int.reduceLT, Int.reduceLE, Int.reduceEq, Int.reduceToNat, UInt8.reduceOfNat, reduceCtorEq, cutA]
  exact hR.ro ⟨rfl, rfl⟩
def prefP (c : UInt8) : Bs → Bs × Bool
  | [] => ([], false)
  | x :: r => if x = c then (r, true) else (x :: r, false)
theorem hasPrefix_ok (s : Bs) (c : UInt8) (hs : s.length ≤ 9223372036854775807) : SpecR Tryd.prog 46 [.str s, .str [c]] (.bool (prefP c s).2) := by
  refine Cod.hasPrefix_spec (fun E R hN hR => ?_)
  cases s with
  | nil =>
    simp (disch := first | omega | (simp only [List.length_append, List.length_cons, List.length_nil, List.length_set, List.length_map, List.length_take, List.length_drop, List.length_range, List.length_replicate, List.length_reverse]; omega)) only [go_sem, Nat.reduceBEq, Nat.reduceAdd, Nat.reduceSub, Nat.reduceMul, Nat.reduceLT, Nat.reduceLeDiff, Nat.reduceEqDiff, Int.reduceAdd, Int.reduceSub, Int.reduceMul, Int.reduceNeg, Int.reduceLT, Int.reduceLE, Int.reduceEq, Int.reduceToNat, UInt8.reduceOfNat, reduceCtorEq]
    (repeat (first | (with_reducible refine gskip_of ?_) | (with_reducible refine gcskip_of ?_) | (with_reducible refine gopen_of ?_)) <;> simp (disch := first | omega | (simp only [List.length_append, List.length_cons, List.length_nil, List.length_set, List.length_map, List.length_take, List.length_drop, List.length_range, List.length_replicate, List.length_reverse]; omega)) only [go_sem, Nat.reduceBEq, Nat.reduceAdd, Nat.reduceSub, Nat.reduceMul, Nat.reduceLT, Nat.reduceLeDiff, Nat.reduceEqDiff, Int.reduceAdd, Int.reduceSub, Int.reduceMul, Int.reduceNeg, Int.reduceLT, Int.reduceLE, Int.reduceEq, Int.reduceToNat, UInt8.reduceOfNat, reduceCtorEq])
    exact hR.ro ⟨rfl, rfl⟩
  | cons x r =>
    simp (disch := first | omega | (simp only [List.length_append, List.length_cons, List.length_nil, List.length_set, List.length_map, List.length_take, List.length_drop, List.length_range, List.length_replicate, List.length_reverse]; omega)) only [go_sem, Nat.reduceBEq, Nat.reduceAdd, Nat.reduceSub, Nat.reduceMul, Nat.reduceLT, Nat.reduceLeDiff, Nat.reduceEqDiff, Int.reduceAdd, Int.reduceSub, Int.reduceMul, Int.reduceNeg, Int.reduceLT, Int.reduceLE, Int.reduceEq, Int.reduceToNat, UInt8.reduceOfNat, reduceCtorEq]
    refine hR.ro ⟨rfl, ?_⟩
    simp only [prefP]
    split
    · rename_i h; simp [h]
    · rename_i h; simp [h]
theorem cutPrefix_ok (s : Bs) (c : UInt8) (hs : s.length ≤ 9223372036854775807) : SpecR Tryd.prog 25 [.str s, .str [c]] (.tup [.str (prefP c s).1, .bool (prefP c s).2]) := by
  have key : SpecR Tryd.prog 41 [.str s, .str [c]] (.tup [.str (prefP c s).1, .bool (prefP c s).2]) := by
    refine Cod.lcutPrefix_spec (fun E R hN hR => ?_)
    simp (disch := first | omega | (simp only [List.length_append, List.length_cons, List.length_nil, List.length_set, List.length_map, List.length_take, List.length_drop, List.length_range, List.length_replicate, List.length_reverse]; omega)) only [go_sem, Nat.reduceBEq, Nat.reduceAdd, Nat.reduceSub, Nat.reduceMul, Nat.reduceLT, Nat.reduceLeDiff, Nat.reduceEqDiff, Int.reduceAdd, Int.reduceSub, Int.reduceMul, Int.reduceNeg, Int.reduceLT, Int.reduceLE, Int.reduceEq, Int.reduceToNat, UInt8.reduceOfNat, reduceCtorEq]
    refine call_ro (hasPrefix_ok s c hs) rfl rfl ?_
    cases s with
    | nil =>
      simp (disch := first | omega | (simp only [List.length_append, List.length_cons, List.length_nil, List.length_set, List.length_map, List.length_take, List.length_drop, List.length_range, List.length_replicate, List.length_reverse]; omega)) only [go_sem, Nat.reduceBEq, Nat.reduceAdd, Nat.reduceSub, Nat.reduceMul, Nat.reduceLT, Nat.reduceLeDiff, Nat.reduceEqDiff, Int.reduceAdd, Int.reduceSub, Int.reduceMul, Int.reduceNeg, Int.reduceLT, Int.reduceLE, Int.reduceEq, Int.reduceToNat, UInt8.reduceOfNat, reduceCtorEq, prefP]
      exact hR.ro ⟨rfl, rfl⟩
    | cons x r =>
      by_cases hx : x = c
      · have hp : prefP c (x :: r) = (r, true) := by simp [prefP, hx]
        simp (disch := first | omega | (simp only [List.length_append, List.length_cons, List.length_nil, List.length_set, List.length_map, List.length_take, List.length_drop, List.length_range, List.length_replicate, List.length_reverse]; omega)) only [go_sem, Nat.reduceBEq, Nat.reduceAdd, Nat.reduceSub, Nat.reduceMul, Nat.reduceLT, Nat.reduceLeDiff, Nat.reduceEqDiff, Int.reduceAdd, Int.reduceSub, Int.reduceMul, Int.reduceNeg, Int.reduceLT, Int.reduceLE, Int.reduceEq, Int.reduceToNat, UInt8.reduceOfNat, reduceCtorEq, hp]
        exact hR.ro ⟨rfl, by rw [hp]⟩
      · have hp : prefP c (x :: r) = (x :: r, false) := by simp [prefP, hx]
        simp (disch := first | omega | (simp only [List.length_append, List.length_cons, List.length_nil, List.length_set, List.length_map, List.length_take, List.length_drop, List.length_range, List.length_replicate, List.length_reverse]; omega)) only [go_sem, Nat.reduceBEq, Nat.reduceAdd, Nat.reduceSub, Nat.reduceMul, Nat.reduceLT, Nat.reduceLeDiff, Nat.reduceEqDiff, Int.reduceAdd, Int.reduceSub, Int.reduceMul, Int.reduceNeg, Int.reduceLT, Int.reduceLE, Int.reduceEq, Int.reduceToNat, UInt8.reduceOfNat, reduceCtorEq, hp]
        exact hR.ro ⟨rfl, by rw [hp]⟩
  refine Cod.cutPrefix_spec (fun E R hN hR => ?_)
  simp (disch := first | omega | (simp only [List.length_append, List.length_cons, List.length_nil, List.length_set, List.length_map, List.length_take, List.length_drop, List.length_range, List.length_replicate, List.length_reverse]; omega)) only [go_sem, Nat.reduceBEq, Nat.reduceAdd, Nat.reduceSub, Nat.reduceMul, Nat.reduceLT, Nat.reduceLeDiff, Nat.reduceEqDiff, Int.reduceAdd, Int.reduceSub, Int.reduceMul, Int.reduceNeg, Int.reduceLT, Int.reduceLE, Int.reduceEq, Int.reduceToNat, UInt8.reduceOfNat, reduceCtorEq]
  refine call_ro key rfl rfl ?_
  simp (disch := first | omega | (simp only [List.length_append, List.length_cons, List.length_nil, List.length_set, List.length_map, List.length_take, List.length_drop, List.length_range, List.length_replicate, List.length_reverse]; omega)) only [go_sem, Nat.reduceBEq, Nat.reduceAdd, Nat.reduceSub, Nat.reduceMul, Nat.reduceLT, Nat.reduceLeDiff, Nat.reduceEqDiff, Int.reduceAdd, Int.reduceSub, Int.reduceMul, Int.reduceNeg, Int.reduceLT, Int.reduceLE, Int.reduceEq, Int.reduceToNat, UInt8.reduceOfNat, reduceCtorEq]
  exact hR.ro ⟨rfl, rfl⟩
/- NUMBERS -/
def isD (b : UInt8) : Bool := decide (48 ≤ b.toNat ∧ b.toNat ≤ 57)
/-- how many digits stand at the front -/
def dlen (s : Bs) : Nat := (s.takeWhile isD).length
theorem dlen_le (s : Bs) : dlen s ≤ s.length := (List.takeWhile_sublist _).length_le
theorem dlen_step : ∀ {s : Bs} {k : Nat}, k ≤ dlen s → k < s.length → (isD (s.getD k 0) = true ↔ k < dlen s)
  | [], k, _, h => by simp at h
  | x :: r, k, h1, h2 => by
    unfold dlen at h1 ⊢
    rw [List.takeWhile_cons] at h1 ⊢
    by_cases hx : isD x = true
    · rw [if_pos hx] at h1 ⊢
      rcases k with _ | k
      · simp [hx]
      · have := dlen_step (s := r) (k := k) (by unfold dlen; simpa using h1) (by simpa using h2)
        unfold dlen at this
        simpa using this
    · rw [if_neg hx] at h1 ⊢
      obtain rfl : k = 0 := by simpa using h1
      simp [hx]
def numP (s : Bs) : Bs × Bs × Bool := if dlen s = 0 ∨ (1 < dlen s ∧ s.getD 0 0 = 48) then ([], [], false) else (s.take (dlen s), s.drop (dlen s), true)
theorem number_tail {E : Env} {s : Bs} {k : Nat} {R : HP → AV → List AV → Prop} (hR : PostTo (fun h r _ => h = [] ∧ r = cutA (numP s)) R) (hs : s.length ≤ 9223372036854775807) (hk : dlen s = k) (x : List (Nat × AV)) :
    vcW Tryd.prog E Cod.number_3 (KQ.post [RVar.tmp 2, RVar.tmp 3, RVar.tmp 4] 1 R) ⟨(0, .str s) :: (5, .int .i64 k) :: x, []⟩ := by
  have hdl := dlen_le s
  have fin : (dlen s = 0 ∨ (1 < dlen s ∧ s.getD 0 0 = 48)) → numP s = ([], [], false) := fun h => if_pos h
  have fin' : ¬ (dlen s = 0 ∨ (1 < dlen s ∧ s.getD 0 0 = 48)) → numP s = (s.take (dlen s), s.drop (dlen s), true) := fun h => if_neg h
  by_cases h0 : k = 0
  · simp (disch := first | omega | (simp only [List.length_append, List.length_cons, List.length_nil, List.length_set, List.length_map, List.length_take, List.length_drop, List.length_range, List.length_replicate, List.length_reverse]; omega)) only [go_sem, Nat.reduceBEq, Nat.reduceAdd, Nat.reduceSub, Nat.reduceMul, Nat.reduceLT, Nat.reduceLeDiff, Nat.reduceEqDiff, Int.reduceAdd, Int.reduceSub, Int.reduceMul, Int.reduceNeg, Int.reduceLT, Int.reduceLE, Int.reduceEq, Int.reduceToNat, UInt8.reduceOfNat, reduceCtorEq]
    (repeat (first | (with_reducible refine gskip_of ?_) | (with_reducible refine gcskip_of ?_) | (with_reducible refine gopen_of ?_)) <;> simp (disch := first | omega | (simp only [List.length_append, List.length_cons, List.length_nil, List.length_set, List.length_map, List.length_take, List.length_drop, List.length_range, List.length_replicate, List.length_reverse]; omega)) only [go_sem, Nat.reduceBEq, Nat.reduceAdd, Nat.reduceSub, Nat.reduceMul, Nat.reduceLT, Nat.reduceLeDiff, Nat.reduceEqDiff, Int.reduceAdd, Int.reduceSub, Int.reduceMul, Int.reduceNeg, Int.reduceLT, Int.reduceLE, Int.reduceEq, Int.reduceToNat, UInt8.reduceOfNat, reduceCtorEq])
    exact hR.ro ⟨rfl, by rw [fin (.inl (by omega))]; rfl⟩
  · by_cases h1 : 1 < k
    · by_cases h2 : (s.getD 0 0).toNat = 48
      · simp (disch := first | omega | (simp only [List.length_append, List.length_cons, List.length_nil, List.length_set, List.length_map, List.length_take, List.length_drop, List.length_range, List.length_replicate, List.length_reverse]; omega)) only [go_sem, Nat.reduceBEq, Nat.reduceAdd, Nat.reduceSub, Nat.reduceMul, Nat.reduceLT, Nat.reduceLeDiff, Nat.reduceEqDiff, Int.reduceAdd, Int.reduceSub, Int.reduceMul, Int.reduceNeg, Int.reduceLT, Int.reduceLE, Int.reduceEq, Int.reduceToNat, UInt8.reduceOfNat, reduceCtorEq]
        exact hR.ro ⟨rfl, by rw [fin (.inr ⟨by omega, UInt8.toNat.inj h2⟩)]; rfl⟩
      · simp (disch := first | omega | (simp only [List.length_append, List.length_cons, List.length_nil, List.length_set, List.length_map, List.length_take, List.length_drop, List.length_range, List.length_replicate, List.length_reverse]; omega)) only [go_sem, Nat.reduceBEq, Nat.reduceAdd, Nat.reduceSub, Nat.reduceMul, Nat.reduceLT, Nat.reduceLeDiff, Nat.reduceEqDiff, Int.reduceAdd, Int.reduceSub, Int.reduceMul, Int.reduceNeg, Int.reduceLT, Int.reduceLE, Int.reduceEq, Int.reduceToNat, UInt8.reduceOfNat, reduceCtorEq]
        exact hR.ro ⟨rfl, by rw [fin' (fun h => h.elim (by omega) (fun h => h2 (by rw [h.2]; rfl))), hk]; rfl⟩
    · simp (disch := first | omega | (simp only [List.length_append, List.length_cons, List.length_nil, List.length_set, List.length_map, List.length_take, List.length_drop, List.length_range, List.length_replicate, List.length_reverse]; omega)) only [go_sem, Nat.reduceBEq, Nat.reduceAdd, Nat.reduceSub, Nat.reduceMul, Nat.reduceLT, Nat.reduceLeDiff, Nat.reduceEqDiff, Int.reduceAdd, Int.reduceSub, Int.reduceMul, Int.reduceNeg, Int.reduceLT, Int.reduceLE, Int.reduceEq, Int.reduceToNat, UInt8.reduceOfNat, reduceCtorEq]
      (repeat (first | (with_reducible refine gskip_of ?_) | (with_reducible refine gcskip_of ?_) | (with_reducible refine gopen_of ?_)) <;> simp (disch := first | omega | (simp only [List.length_append, List.length_cons, List.length_nil, List.length_set, List.length_map, List.length_take, List.length_drop, List.length_range, List.length_replicate, List.length_reverse]; omega)) only [go_sem, Nat.reduceBEq, Nat.reduceAdd, Nat.reduceSub, Nat.reduceMul, Nat.reduceLT, Nat.reduceLeDiff, Nat.reduceEqDiff, Int.reduceAdd, Int.reduceSub, Int.reduceMul, Int.reduceNeg, Int.reduceLT, Int.reduceLE, Int.reduceEq, Int.reduceToNat, UInt8.reduceOfNat, reduceCtorEq])
      exact hR.ro ⟨rfl, by rw [fin' (fun h => h.elim (by omega) (fun h => by omega)), hk]; rfl⟩
theorem number_ok (s : Bs) (hs : s.length ≤ 9223372036854775807) : SpecR Tryd.prog 26 [.str s] (cutA (numP s)) := by
  refine Cod.number_spec (fun E R hN hR => ?_)
  have hdl := dlen_le s
  simp (disch := first | omega | (simp only [List.length_append, List.length_cons, List.length_nil, List.length_set, List.length_map, List.length_take, List.length_drop, List.length_range, List.length_replicate, List.length_reverse]; omega)) only [go_sem, Nat.reduceBEq, Nat.reduceAdd, Nat.reduceSub, Nat.reduceMul, Nat.reduceLT, Nat.reduceLeDiff, Nat.reduceEqDiff, Int.reduceAdd, Int.reduceSub, Int.reduceMul, Int.reduceNeg, Int.reduceLT, Int.reduceLE, Int.reduceEq, Int.reduceToNat, UInt8.reduceOfNat, reduceCtorEq]
  generalize hQ : KQ.seq Tryd.prog E Cod.number_3 _ = Q3
  refine vcW_loop hN (fun k : Nat => ⟨[(0, .str s), (5, .int .i64 k)], []⟩) (fun k => k ≤ dlen s) (fun k => s.length - k) 0 (.le (by simp (disch := first | omega | (simp only [List.length_append, List.length_cons, List.length_nil, List.length_set, List.length_map, List.length_take, List.length_drop, List.length_range, List.length_replicate, List.length_reverse]; omega)) only [go_sem, Nat.reduceBEq, Nat.reduceAdd, Nat.reduceSub, Nat.reduceMul, Nat.reduceLT, Nat.reduceLeDiff, Nat.reduceEqDiff, Int.reduceAdd, Int.reduceSub, Int.reduceMul, Int.reduceNeg, Int.reduceLT, Int.reduceLE, Int.reduceEq, Int.reduceToNat, UInt8.reduceOfNat, reduceCtorEq])) (by omega) ?_
  rintro k R1 hk hR1
  by_cases hl : k < s.length
  · have hst := dlen_step hk hl
    obtain ⟨b, hb⟩ : ∃ b, b = s.getD k 0 := ⟨_, rfl⟩
    rw [← hb] at hst
    unfold isD at hst
    rw [decide_eq_true_eq] at hst
    by_cases h1 : 48 ≤ b.toNat
    · by_cases h2 : b.toNat ≤ 57
      · simp (disch := first | omega | (simp only [List.length_append, List.length_cons, List.length_nil, List.length_set, List.length_map, List.length_take, List.length_drop, List.length_range, List.length_replicate, List.length_reverse]; omega)) only [go_sem, Nat.reduceBEq, Nat.reduceAdd, Nat.reduceSub, Nat.reduceMul, Nat.reduceLT, Nat.reduceLeDiff, Nat.reduceEqDiff, Int.reduceAdd, Int.reduceSub, Int.reduceMul, Int.reduceNeg, Int.reduceLT, Int.reduceLE, Int.reduceEq, Int.reduceToNat, UInt8.reduceOfNat, reduceCtorEq, ← hb]
        exact hR1 (k + 1) _ (by omega) (by have := hst.1 ⟨h1, h2⟩; omega) (.le (by simp (disch := first | omega | (simp only [List.length_append, List.length_cons, List.length_nil, List.length_set, List.length_map, List.length_take, List.length_drop, List.length_range, List.length_replicate, List.length_reverse]; omega)) only [go_sem, Nat.reduceBEq, Nat.reduceAdd, Nat.reduceSub, Nat.reduceMul, Nat.reduceLT, Nat.reduceLeDiff, Nat.reduceEqDiff, Int.reduceAdd, Int.reduceSub, Int.reduceMul, Int.reduceNeg, Int.reduceLT, Int.reduceLE, Int.reduceEq, Int.reduceToNat, UInt8.reduceOfNat, reduceCtorEq]))
      · simp (disch := first | omega | (simp only [List.length_append, List.length_cons, List.length_nil, List.length_set, List.length_map, List.length_take, List.length_drop, List.length_range, List.length_replicate, List.length_reverse]; omega)) only [go_sem, Nat.reduceBEq, Nat.reduceAdd, Nat.reduceSub, Nat.reduceMul, Nat.reduceLT, Nat.reduceLeDiff, Nat.reduceEqDiff, Int.reduceAdd, Int.reduceSub, Int.reduceMul, Int.reduceNeg, Int.reduceLT, Int.reduceLE, Int.reduceEq, Int.reduceToNat, UInt8.reduceOfNat, reduceCtorEq, ← hb]
        subst hQ
        exact number_tail hR hs (by omega) _
    · simp (disch := first | omega | (simp only [List.length_append, List.length_cons, List.length_nil, List.length_set, List.length_map, List.length_take, List.length_drop, List.length_range, List.length_replicate, List.length_reverse]; omega)) only [go_sem, Nat.reduceBEq, Nat.reduceAdd, Nat.reduceSub, Nat.reduceMul, Nat.reduceLT, Nat.reduceLeDiff, Nat.reduceEqDiff, Int.reduceAdd, Int.reduceSub, Int.reduceMul, Int.reduceNeg, Int.reduceLT, Int.reduceLE, Int.reduceEq, Int.reduceToNat, UInt8.reduceOfNat, reduceCtorEq, ← hb]
      (repeat (first | (with_reducible refine gskip_of ?_) | (with_reducible refine gcskip_of ?_) | (with_reducible refine gopen_of ?_)) <;> simp (disch := first | omega | (simp only [List.length_append, List.length_cons, List.length_nil, List.length_set, List.length_map, List.length_take, List.length_drop, List.length_range, List.length_replicate, List.length_reverse]; omega)) only [go_sem, Nat.reduceBEq, Nat.reduceAdd, Nat.reduceSub, Nat.reduceMul, Nat.reduceLT, Nat.reduceLeDiff, Nat.reduceEqDiff, Int.reduceAdd, Int.reduceSub, Int.reduceMul, Int.reduceNeg, Int.reduceLT, Int.reduceLE, Int.reduceEq, Int.reduceToNat, UInt8.reduceOfNat, reduceCtorEq, ← hb])
      subst hQ
      exact number_tail hR hs (by omega) _
  · simp (disch := first | omega | (simp only [List.length_append, List.length_cons, List.length_nil, List.length_set, List.length_map, List.length_take, List.length_drop, List.length_range, List.length_replicate, List.length_reverse]; omega)) only [go_sem, Nat.reduceBEq, Nat.reduceAdd, Nat.reduceSub, Nat.reduceMul, Nat.reduceLT, Nat.reduceLeDiff, Nat.reduceEqDiff, Int.reduceAdd, Int.reduceSub, Int.reduceMul, Int.reduceNeg, Int.reduceLT, Int.reduceLE, Int.reduceEq, Int.reduceToNat, UInt8.reduceOfNat, reduceCtorEq]
    (repeat (first | (with_reducible refine gskip_of ?_) | (with_reducible refine gcskip_of ?_) | (with_reducible refine gopen_of ?_)) <;> simp (disch := first | omega | (simp only [List.length_append, List.length_cons, List.length_nil, List.length_set, List.length_map, List.length_take, List.length_drop, List.length_range, List.length_replicate, List.length_reverse]; omega)) only [go_sem, Nat.reduceBEq, Nat.reduceAdd, Nat.reduceSub, Nat.reduceMul, Nat.reduceLT, Nat.reduceLeDiff, Nat.reduceEqDiff, Int.reduceAdd, Int.reduceSub, Int.reduceMul, Int.reduceNeg, Int.reduceLT, Int.reduceLE, Int.reduceEq, Int.reduceToNat, UInt8.reduceOfNat, reduceCtorEq])
    subst hQ
    exact number_tail hR hs (by omega) _
def digB (s : Bs) : Bool := !s.isEmpty && s.all isD
theorem dw_nil (p : UInt8 → Bool) : ∀ l : Bs, l.dropWhile p = [] ↔ l.all p = true
  | [] => by simp
  | x :: r => by
    rw [List.dropWhile_cons]
    cases h : p x <;> simp [h, dw_nil p r]
theorem dw_all (p : UInt8 → Bool) : ∀ l : Bs, (l.dropWhile p).all p = true → l.dropWhile p = []
  | [], _ => rfl
  | x :: r, h => by
    rw [List.dropWhile_cons] at h ⊢
    cases hp : p x with
    | true => rw [hp] at h; simpa using dw_all p r (by simpa using h)
    | false => rw [hp] at h; simp [hp] at h
theorem isD_decs (b : UInt8) : decs.contains b = isD b := by
  have : ∀ b : Fin 256, decs.contains (UInt8.ofNat b.val) = isD (UInt8.ofNat b.val) := by decide
  have h := this ⟨b.toNat, b.toNat_lt⟩
  simpa using h
theorem trimS_nil (s : Bs) : (Lib.trimS s decs = []) ↔ s.all isD = true := by
  have hf : (fun b => decs.contains b) = isD := funext isD_decs
  unfold Lib.trimS Lib.trimLeftS Lib.trimRightS
  rw [show (decs.contains · : UInt8 → Bool) = isD from hf, dw_nil, List.all_reverse]
  constructor
  · intro h
    have := (dw_nil isD _).1 (dw_all isD _ h)
    rwa [List.all_reverse] at this
  · intro h
    rw [(dw_nil isD s.reverse).2 (by rw [List.all_reverse]; exact h)]
    rfl
theorem digits_ok (s : Bs) (hs : s.length ≤ 9223372036854775807) : SpecR Tryd.prog 40 [.str s] (.bool (digB s)) := by
  refine Cod.digits_spec (fun E R hN hR => ?_)
  cases s with
  | nil =>
    simp (disch := first | omega | (simp only [List.length_append, List.length_cons, List.length_nil, List.length_set, List.length_map, List.length_take, List.length_drop, List.length_range, List.length_replicate, List.length_reverse]; omega)) only [go_sem, Nat.reduceBEq, Nat.reduceAdd, Nat.reduceSub, Nat.reduceMul, Nat.reduceLT, Nat.reduceLeDiff, Nat.reduceEqDiff, Int.reduceAdd, Int.reduceSub, Int.reduceMul, Int.reduceNeg, Int.reduceLT, Int.reduceLE, Int.reduceEq, Int.reduceToNat, UInt8.reduceOfNat, reduceCtorEq]
    (repeat (first | (with_reducible refine gskip_of ?_) | (with_reducible refine gcskip_of ?_) | (with_reducible refine gopen_of ?_)) <;> simp (disch := first | omega | (simp only [List.length_append, List.length_cons, List.length_nil, List.length_set, List.length_map, List.length_take, List.length_drop, List.length_range, List.length_replicate, List.length_reverse]; omega)) only [go_sem, Nat.reduceBEq, Nat.reduceAdd, Nat.reduceSub, Nat.reduceMul, Nat.reduceLT, Nat.reduceLeDiff, Nat.reduceEqDiff, Int.reduceAdd, Int.reduceSub, Int.reduceMul, Int.reduceNeg, Int.reduceLT, Int.reduceLE, Int.reduceEq, Int.reduceToNat, UInt8.reduceOfNat, reduceCtorEq])
    exact hR.ro ⟨rfl, rfl⟩
  | cons x r =>
    have htr := trim_ok (x :: r) hs
    rw [decs] at htr
    simp (disch := first | omega | (simp only [List.length_append, List.length_cons, List.length_nil, List.length_set, List.length_map, List.length_take, List.length_drop, List.length_range, List.length_replicate, List.length_reverse]; omega)) only [go_sem, Nat.reduceBEq, Nat.reduceAdd, Nat.reduceSub, Nat.reduceMul, Nat.reduceLT, Nat.reduceLeDiff, Nat.reduceEqDiff, Int.reduceAdd, Int.reduceSub, Int.reduceMul, Int.reduceNeg, Int.reduceLT, Int.reduceLE, Int.reduceEq, Int.reduceToNat, UInt8.reduceOfNat, reduceCtorEq]
    refine gcyes_of (callT_ro (by simp (disch := first | omega | (simp only [List.length_append, List.length_cons, List.length_nil, List.length_set, List.length_map, List.length_take, List.length_drop, List.length_range, List.length_replicate, List.length_reverse]; omega)) only [go_sem, Nat.reduceBEq, Nat.reduceAdd, Nat.reduceSub, Nat.reduceMul, Nat.reduceLT, Nat.reduceLeDiff, Nat.reduceEqDiff, Int.reduceAdd, Int.reduceSub, Int.reduceMul, Int.reduceNeg, Int.reduceLT, Int.reduceLE, Int.reduceEq, Int.reduceToNat, UInt8.reduceOfNat, reduceCtorEq]) htr (by simp (disch := first | omega | (simp only [List.length_append, List.length_cons, List.length_nil, List.length_set, List.length_map, List.length_take, List.length_drop, List.length_range, List.length_replicate, List.length_reverse]; omega)) only [go_sem, Nat.reduceBEq, Nat.reduceAdd, Nat.reduceSub, Nat.reduceMul, Nat.reduceLT, Nat.reduceLeDiff, Nat.reduceEqDiff, Int.reduceAdd, Int.reduceSub, Int.reduceMul, Int.reduceNeg, Int.reduceLT, Int.reduceLE, Int.reduceEq, Int.reduceToNat, UInt8.reduceOfNat, reduceCtorEq]) rfl rfl ?_)
    simp (disch := first | omega | (simp only [List.length_append, List.length_cons, List.length_nil, List.length_set, List.length_map, List.length_take, List.length_drop, List.length_range, List.length_replicate, List.length_reverse]; omega)) only [go_sem, Nat.reduceBEq, Nat.reduceAdd, Nat.reduceSub, Nat.reduceMul, Nat.reduceLT, Nat.reduceLeDiff, Nat.reduceEqDiff, Int.reduceAdd, Int.reduceSub, Int.reduceMul, Int.reduceNeg, Int.reduceLT, Int.reduceLE, Int.reduceEq, Int.reduceToNat, UInt8.reduceOfNat, reduceCtorEq]
    refine hR.ro ⟨rfl, ?_⟩
    congr 1
    have := trimS_nil (x :: r)
    rw [decs] at this
    by_cases h : (x :: r).all isD = true
    · rw [this.2 h, digB, h]; rfl
    · rw [digB]
      simp only [Bool.not_eq_true] at h
      rw [h]
      simp only [Bool.and_false]
      rw [decide_eq_false_iff_not]
      intro e
      rw [this.1 e] at h; cases h
def signP (n : Int) : Int := max (-1) (min n 1)
theorem sign_ok (n : Int) (h : -9223372036854775808 ≤ n ∧ n ≤ 9223372036854775807) : SpecR Tryd.prog 38 [.int .i64 n] (.int .i64 (signP n)) := by
  refine Cod.sign_spec (fun E R hN hR => ?_)
  simp (disch := first | omega | (simp only [List.length_append, List.length_cons, List.length_nil, List.length_set, List.length_map, List.length_take, List.length_drop, List.length_range, List.length_replicate, List.length_reverse]; omega)) only [go_sem, Nat.reduceBEq, Nat.reduceAdd, Nat.reduceSub, Nat.reduceMul, Nat.reduceLT, Nat.reduceLeDiff, Nat.reduceEqDiff, Int.reduceAdd, Int.reduceSub, Int.reduceMul, Int.reduceNeg, Int.reduceLT, Int.reduceLE, Int.reduceEq, Int.reduceToNat, UInt8.reduceOfNat, reduceCtorEq]
  exact hR.ro ⟨rfl, by unfold signP; congr 1⟩
/-- numbers as they are written -/
def numCmp (a b : Bs) : Int := if a.length = b.length then Lib.compareBytes a b else if a.length < b.length then -1 else 1
theorem byNumber_ok (a b : Bs) (ha : a.length ≤ 9223372036854775807) (hb : b.length ≤ 9223372036854775807) : SpecR Tryd.prog 23 [.str a, .str b] (.int .i64 (numCmp a b)) := by
  refine Cod.byNumber_spec (fun E R hN hR => ?_)
  by_cases hl : a.length = b.length
  · simp (disch := first | omega | (simp only [List.length_append, List.length_cons, List.length_nil, List.length_set, List.length_map, List.length_take, List.length_drop, List.length_range, List.length_replicate, List.length_reverse]; omega)) only [go_sem, Nat.reduceBEq, Nat.reduceAdd, Nat.reduceSub, Nat.reduceMul, Nat.reduceLT, Nat.reduceLeDiff, Nat.reduceEqDiff, Int.reduceAdd, Int.reduceSub, Int.reduceMul, Int.reduceNeg, Int.reduceLT, Int.reduceLE, Int.reduceEq, Int.reduceToNat, UInt8.reduceOfNat, reduceCtorEq]
    refine call_ro (compareS_ok a b) rfl rfl ?_
    simp (disch := first | omega | (simp only [List.length_append, List.length_cons, List.length_nil, List.length_set, List.length_map, List.length_take, List.length_drop, List.length_range, List.length_replicate, List.length_reverse]; omega)) only [go_sem, Nat.reduceBEq, Nat.reduceAdd, Nat.reduceSub, Nat.reduceMul, Nat.reduceLT, Nat.reduceLeDiff, Nat.reduceEqDiff, Int.reduceAdd, Int.reduceSub, Int.reduceMul, Int.reduceNeg, Int.reduceLT, Int.reduceLE, Int.reduceEq, Int.reduceToNat, UInt8.reduceOfNat, reduceCtorEq]
    exact hR.ro ⟨rfl, by rw [numCmp, if_pos hl]⟩
  · simp (disch := first | omega | (simp only [List.length_append, List.length_cons, List.length_nil, List.length_set, List.length_map, List.length_take, List.length_drop, List.length_range, List.length_replicate, List.length_reverse]; omega)) only [go_sem, Nat.reduceBEq, Nat.reduceAdd, Nat.reduceSub, Nat.reduceMul, Nat.reduceLT, Nat.reduceLeDiff, Nat.reduceEqDiff, Int.reduceAdd, Int.reduceSub, Int.reduceMul, Int.reduceNeg, Int.reduceLT, Int.reduceLE, Int.reduceEq, Int.reduceToNat, UInt8.reduceOfNat, reduceCtorEq]
    refine call_ro (sign_ok _ (by omega)) rfl rfl ?_
    simp (disch := first | omega | (simp only [List.length_append, List.length_cons, List.length_nil, List.length_set, List.length_map, List.length_take, List.length_drop, List.length_range, List.length_replicate, List.length_reverse]; omega)) only [go_sem, Nat.reduceBEq, Nat.reduceAdd, Nat.reduceSub, Nat.reduceMul, Nat.reduceLT, Nat.reduceLeDiff, Nat.reduceEqDiff, Int.reduceAdd, Int.reduceSub, Int.reduceMul, Int.reduceNeg, Int.reduceLT, Int.reduceLE, Int.reduceEq, Int.reduceToNat, UInt8.reduceOfNat, reduceCtorEq]
    refine hR.ro ⟨rfl, ?_⟩
    rw [numCmp, if_neg hl, signP]
    split
    · congr 1; omega
    · congr 1; omega
end Go.Proofs.YtjjhicejabggdaaDoor.Sv
