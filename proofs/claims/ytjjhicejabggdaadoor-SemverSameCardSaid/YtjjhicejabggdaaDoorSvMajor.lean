/- SemverMajor: the law. -/
import Derived.Test.YtjjhicejabggdaaDoorSvTotal
set_option linter.all false
namespace Go.Proofs.YtjjhicejabggdaaDoor.Sv
open Eng
set_option maxRecDepth 10000
theorem dlen_take (s : Bs) : s.take (dlen s) = s.takeWhile isD := by
  unfold dlen
  induction s with
  | nil => rfl
  | cons x r ih =>
    rw [List.takeWhile_cons]
    split
    · simp [ih]
    · rfl
theorem tw_all : ∀ {s : Bs}, s.all isD = true → ∀ t : Bs, (t = [] ∨ isD (t.getD 0 0) = false) → (s ++ t).takeWhile isD = s
  | [], _, t, ht => by
    cases t with
    | nil => rfl
    | cons y u =>
      rcases ht with ht | ht
      · cases ht
      · have : isD y = false := by simpa using ht
        simp [List.takeWhile_cons, this]
  | x :: r, h, t, ht => by
    simp only [List.all_cons, Bool.and_eq_true] at h
    rw [List.cons_append, List.takeWhile_cons, if_pos h.1, tw_all h.2 t ht]
/-- a number as it is written -/
def Num (x : Bs) : Prop := x.all isD = true ∧ x ≠ [] ∧ (1 < x.length → x.getD 0 0 ≠ 48)
theorem numP_num {r x y : Bs} (h : numP r = (x, y, true)) : Num x ∧ r = x ++ y := by
  unfold numP at h
  split at h
  · simp at h
  · rename_i hc
    simp only [Prod.mk.injEq, and_true] at h
    obtain ⟨h1, h2⟩ := h
    have hx : x = r.takeWhile isD := by rw [← h1, dlen_take]
    have hlen : x.length = dlen r := by rw [hx]; rfl
    refine ⟨⟨?_, fun e => hc (.inl (by rw [← hlen, e]; rfl)), fun hl he => hc (.inr ⟨by omega, ?_⟩)⟩, ?_⟩
    · rw [hx, List.all_eq_true]
      intro b hb
      exact List.all_eq_true.1 List.all_takeWhile b hb
    · rw [← he, ← h1]
      cases r with
      | nil => simp [dlen] at hc
      | cons z u =>
        cases hd : dlen (z :: u) with
        | zero => omega
        | succ n => simp
    · rw [← h1, ← h2, List.take_append_drop]
theorem numP_app {x t : Bs} (h : Num x) (ht : t = [] ∨ isD (t.getD 0 0) = false) : numP (x ++ t) = (x, t, true) := by
  obtain ⟨h1, h2, h3⟩ := h
  have hd : dlen (x ++ t) = x.length := by unfold dlen; rw [tw_all h1 t ht]
  have hpos : 0 < x.length := List.length_pos_iff.2 h2
  have h0 : (x ++ t).getD 0 0 = x.getD 0 0 := by
    cases x with
    | nil => exact absurd rfl h2
    | cons z u => rfl
  unfold numP
  rw [hd, h0, if_neg (fun hc => hc.elim (fun e => by omega) (fun e => h3 e.1 e.2))]
  simp
theorem parseP_mj {s : Bs} {v : Ver} (h : parseP s = some v) : Num v.mj ∧ v.mj.length + 1 ≤ s.length := by
  unfold parseP at h
  have hp : (prefP 118 s).2 = true → s.length = (prefP 118 s).1.length + 1 := by
    cases s with
    | nil => simp [prefP]
    | cons x r => simp only [prefP]; split <;> simp
  split at h
  · cases h
  · rename_i hc
    have hc2 : (prefP 118 s).2 = true := by
      cases h2 : (prefP 118 s).2 with
      | true => rfl
      | false => exact absurd (.inl h2) hc
    unfold parse1 at h
    obtain ⟨x, y, z, hq⟩ : ∃ x y z, numP (prefP 118 s).1 = (x, y, z) := ⟨_, _, _, rfl⟩
    have hl := (numP_len (prefP 118 s).1).1
    rw [hq] at h hl
    cases z with
    | false => simp at h
    | true =>
      simp only [Bool.true_eq_false, if_false] at h
      have := (parse2_len h).1
      rw [this]
      have := hp hc2
      exact ⟨(numP_num hq).1, by simp only at hl; omega⟩
theorem parse_major {x : Bs} (h : Num x) (hl : x.length + 1 ≤ 100) : parseP ([118] ++ x) = some ⟨x, [48], [48], [], [], 2⟩ := by
  have := numP_app h (.inl rfl : ([] : Bs) = [] ∨ _)
  rw [List.append_nil] at this
  have hp : prefP 118 ([118] ++ x) = (x, true) := rfl
  rw [parseP, hp, if_neg (by simp; omega), parse1]
  simp only [this]
  rfl
theorem cmp_major {a b : Bs} {v w : Ver} (ha : parseP a = some v) (hb : parseP b = some w) (hne : v.mj ≠ w.mj) : cmpP a b = numCmp v.mj w.mj ∧ cmpP (majorP a) (majorP b) = numCmp v.mj w.mj ∧ numCmp v.mj w.mj ≠ 0 := by
  have h0 : numCmp v.mj w.mj ≠ 0 := fun h => hne (numCmp_zero h)
  obtain ⟨n1, l1⟩ := parseP_mj ha
  obtain ⟨n2, l2⟩ := parseP_mj hb
  have m1 := (parseP_len ha).1
  have m2 := (parseP_len hb).1
  refine ⟨?_, ?_, h0⟩
  · rw [cmpP, ha, hb]
    show cmpV v w = _
    rw [cmpV, if_pos h0]
  · have e1 : majorP a = [118] ++ v.mj := by rw [majorP, ha]
    have e2 : majorP b = [118] ++ w.mj := by rw [majorP, hb]
    rw [e1, e2, cmpP, parse_major n1 (by omega), parse_major n2 (by omega)]
    show cmpV _ _ = _
    rw [cmpV, if_pos h0]
theorem majorP_len (s : Bs) : (majorP s).length ≤ 200 := by
  unfold majorP
  split
  · simp
  · rename_i v h
    have := (parseP_len h).2.1
    simp; omega
theorem semverMajor_ok (a b : Bs) (ha : a.length ≤ 9223372036854775807) (hb : b.length ≤ 9223372036854775807) : SpecR Tryd.prog 8 [.str a, .str b] (.bool true) := by
  refine Cod.lmajor_spec (fun E R hN hR => ?_)
  have h1 := parse_ok a ha
  have h2 := parse_ok b hb
  have k1 := major_ok a ha
  have k2 := major_ok b hb
  have k3 := compare_ok a b ha hb
  have ml1 := majorP_len a
  have ml2 := majorP_len b
  have k4 := compare_ok (majorP a) (majorP b) (by omega) (by omega)
  cases hp : parseP a with
  | none =>
    have e1 : majorP a = [] := by rw [majorP, hp]
    rw [hp] at h1
    rw [e1] at k1
    cases hq : parseP b with
    | none =>
      have e2 : majorP b = [] := by rw [majorP, hq]
      rw [hq] at h2
      rw [e2] at k2
      simp only [parseA, verA, noV, Option.getD_none, Option.isSome_none] at h1 h2
      simp (disch := first | omega | (simp only [List.length_append, List.length_cons, List.length_nil, List.length_set, List.length_map, List.length_take, List.length_drop, List.length_range, List.length_replicate, List.length_reverse]; omega)) only [go_sem, Nat.reduceBEq, Nat.reduceAdd, Nat.reduceSub, Nat.reduceMul, Nat.reduceLT, Nat.reduceLeDiff, Nat.reduceEqDiff, Int.reduceAdd, Int.reduceSub, Int.reduceMul, Int.reduceNeg, Int.reduceLT, Int.reduceLE, Int.reduceEq, Int.reduceToNat, UInt8.reduceOfNat, reduceCtorEq]
      refine call_ro h1 rfl rfl ?_
      simp (disch := first | omega | (simp only [List.length_append, List.length_cons, List.length_nil, List.length_set, List.length_map, List.length_take, List.length_drop, List.length_range, List.length_replicate, List.length_reverse]; omega)) only [go_sem, Nat.reduceBEq, Nat.reduceAdd, Nat.reduceSub, Nat.reduceMul, Nat.reduceLT, Nat.reduceLeDiff, Nat.reduceEqDiff, Int.reduceAdd, Int.reduceSub, Int.reduceMul, Int.reduceNeg, Int.reduceLT, Int.reduceLE, Int.reduceEq, Int.reduceToNat, UInt8.reduceOfNat, reduceCtorEq]
      refine call_ro h2 rfl rfl ?_
      simp (disch := first | omega | (simp only [List.length_append, List.length_cons, List.length_nil, List.length_set, List.length_map, List.length_take, List.length_drop, List.length_range, List.length_replicate, List.length_reverse]; omega)) only [go_sem, Nat.reduceBEq, Nat.reduceAdd, Nat.reduceSub, Nat.reduceMul, Nat.reduceLT, Nat.reduceLeDiff, Nat.reduceEqDiff, Int.reduceAdd, Int.reduceSub, Int.reduceMul, Int.reduceNeg, Int.reduceLT, Int.reduceLE, Int.reduceEq, Int.reduceToNat, UInt8.reduceOfNat, reduceCtorEq]
      (repeat (first | (with_reducible refine gskip_of ?_) | (with_reducible refine gcskip_of ?_) | (with_reducible refine gopen_of ?_)) <;> simp (disch := first | omega | (simp only [List.length_append, List.length_cons, List.length_nil, List.length_set, List.length_map, List.length_take, List.length_drop, List.length_range, List.length_replicate, List.length_reverse]; omega)) only [go_sem, Nat.reduceBEq, Nat.reduceAdd, Nat.reduceSub, Nat.reduceMul, Nat.reduceLT, Nat.reduceLeDiff, Nat.reduceEqDiff, Int.reduceAdd, Int.reduceSub, Int.reduceMul, Int.reduceNeg, Int.reduceLT, Int.reduceLE, Int.reduceEq, Int.reduceToNat, UInt8.reduceOfNat, reduceCtorEq])
      refine call_ro awake_ok rfl rfl ?_
      simp (disch := first | omega | (simp only [List.length_append, List.length_cons, List.length_nil, List.length_set, List.length_map, List.length_take, List.length_drop, List.length_range, List.length_replicate, List.length_reverse]; omega)) only [go_sem, Nat.reduceBEq, Nat.reduceAdd, Nat.reduceSub, Nat.reduceMul, Nat.reduceLT, Nat.reduceLeDiff, Nat.reduceEqDiff, Int.reduceAdd, Int.reduceSub, Int.reduceMul, Int.reduceNeg, Int.reduceLT, Int.reduceLE, Int.reduceEq, Int.reduceToNat, UInt8.reduceOfNat, reduceCtorEq]
      refine gcyes_of (callT_ro (by simp (disch := first | omega | (simp only [List.length_append, List.length_cons, List.length_nil, List.length_set, List.length_map, List.length_take, List.length_drop, List.length_range, List.length_replicate, List.length_reverse]; omega)) only [go_sem, Nat.reduceBEq, Nat.reduceAdd, Nat.reduceSub, Nat.reduceMul, Nat.reduceLT, Nat.reduceLeDiff, Nat.reduceEqDiff, Int.reduceAdd, Int.reduceSub, Int.reduceMul, Int.reduceNeg, Int.reduceLT, Int.reduceLE, Int.reduceEq, Int.reduceToNat, UInt8.reduceOfNat, reduceCtorEq]) k1 (by simp (disch := first | omega | (simp only [List.length_append, List.length_cons, List.length_nil, List.length_set, List.length_map, List.length_take, List.length_drop, List.length_range, List.length_replicate, List.length_reverse]; omega)) only [go_sem, Nat.reduceBEq, Nat.reduceAdd, Nat.reduceSub, Nat.reduceMul, Nat.reduceLT, Nat.reduceLeDiff, Nat.reduceEqDiff, Int.reduceAdd, Int.reduceSub, Int.reduceMul, Int.reduceNeg, Int.reduceLT, Int.reduceLE, Int.reduceEq, Int.reduceToNat, UInt8.reduceOfNat, reduceCtorEq]) rfl rfl ?_)
      simp (disch := first | omega | (simp only [List.length_append, List.length_cons, List.length_nil, List.length_set, List.length_map, List.length_take, List.length_drop, List.length_range, List.length_replicate, List.length_reverse]; omega)) only [go_sem, Nat.reduceBEq, Nat.reduceAdd, Nat.reduceSub, Nat.reduceMul, Nat.reduceLT, Nat.reduceLeDiff, Nat.reduceEqDiff, Int.reduceAdd, Int.reduceSub, Int.reduceMul, Int.reduceNeg, Int.reduceLT, Int.reduceLE, Int.reduceEq, Int.reduceToNat, UInt8.reduceOfNat, reduceCtorEq]
      refine gcyes_of (callT_ro (by simp (disch := first | omega | (simp only [List.length_append, List.length_cons, List.length_nil, List.length_set, List.length_map, List.length_take, List.length_drop, List.length_range, List.length_replicate, List.length_reverse]; omega)) only [go_sem, Nat.reduceBEq, Nat.reduceAdd, Nat.reduceSub, Nat.reduceMul, Nat.reduceLT, Nat.reduceLeDiff, Nat.reduceEqDiff, Int.reduceAdd, Int.reduceSub, Int.reduceMul, Int.reduceNeg, Int.reduceLT, Int.reduceLE, Int.reduceEq, Int.reduceToNat, UInt8.reduceOfNat, reduceCtorEq]) k2 (by simp (disch := first | omega | (simp only [List.length_append, List.length_cons, List.length_nil, List.length_set, List.length_map, List.length_take, List.length_drop, List.length_range, List.length_replicate, List.length_reverse]; omega)) only [go_sem, Nat.reduceBEq, Nat.reduceAdd, Nat.reduceSub, Nat.reduceMul, Nat.reduceLT, Nat.reduceLeDiff, Nat.reduceEqDiff, Int.reduceAdd, Int.reduceSub, Int.reduceMul, Int.reduceNeg, Int.reduceLT, Int.reduceLE, Int.reduceEq, Int.reduceToNat, UInt8.reduceOfNat, reduceCtorEq]) rfl rfl ?_)
      simp (disch := first | omega | (simp only [List.length_append, List.length_cons, List.length_nil, List.length_set, List.length_map, List.length_take, List.length_drop, List.length_range, List.length_replicate, List.length_reverse]; omega)) only [go_sem, Nat.reduceBEq, Nat.reduceAdd, Nat.reduceSub, Nat.reduceMul, Nat.reduceLT, Nat.reduceLeDiff, Nat.reduceEqDiff, Int.reduceAdd, Int.reduceSub, Int.reduceMul, Int.reduceNeg, Int.reduceLT, Int.reduceLE, Int.reduceEq, Int.reduceToNat, UInt8.reduceOfNat, reduceCtorEq]
      exact hR.wk (h' := []) (r' := .bool true) (ar' := [.undef, .undef]) rfl (.le (by simp (disch := first | omega | (simp only [List.length_append, List.length_cons, List.length_nil, List.length_set, List.length_map, List.length_take, List.length_drop, List.length_range, List.length_replicate, List.length_reverse]; omega)) only [go_sem, Nat.reduceBEq, Nat.reduceAdd, Nat.reduceSub, Nat.reduceMul, Nat.reduceLT, Nat.reduceLeDiff, Nat.reduceEqDiff, Int.reduceAdd, Int.reduceSub, Int.reduceMul, Int.reduceNeg, Int.reduceLT, Int.reduceLE, Int.reduceEq, Int.reduceToNat, UInt8.reduceOfNat, reduceCtorEq])) ⟨rfl, rfl⟩
    | some w =>
      rw [hq] at h2
      simp only [parseA, verA, noV, Option.getD_none, Option.isSome_none, Option.getD_some, Option.isSome_some] at h1 h2
      simp (disch := first | omega | (simp only [List.length_append, List.length_cons, List.length_nil, List.length_set, List.length_map, List.length_take, List.length_drop, List.length_range, List.length_replicate, List.length_reverse]; omega)) only [go_sem, Nat.reduceBEq, Nat.reduceAdd, Nat.reduceSub, Nat.reduceMul, Nat.reduceLT, Nat.reduceLeDiff, Nat.reduceEqDiff, Int.reduceAdd, Int.reduceSub, Int.reduceMul, Int.reduceNeg, Int.reduceLT, Int.reduceLE, Int.reduceEq, Int.reduceToNat, UInt8.reduceOfNat, reduceCtorEq]
      refine call_ro h1 rfl rfl ?_
      simp (disch := first | omega | (simp only [List.length_append, List.length_cons, List.length_nil, List.length_set, List.length_map, List.length_take, List.length_drop, List.length_range, List.length_replicate, List.length_reverse]; omega)) only [go_sem, Nat.reduceBEq, Nat.reduceAdd, Nat.reduceSub, Nat.reduceMul, Nat.reduceLT, Nat.reduceLeDiff, Nat.reduceEqDiff, Int.reduceAdd, Int.reduceSub, Int.reduceMul, Int.reduceNeg, Int.reduceLT, Int.reduceLE, Int.reduceEq, Int.reduceToNat, UInt8.reduceOfNat, reduceCtorEq]
      refine call_ro h2 rfl rfl ?_
      simp (disch := first | omega | (simp only [List.length_append, List.length_cons, List.length_nil, List.length_set, List.length_map, List.length_take, List.length_drop, List.length_range, List.length_replicate, List.length_reverse]; omega)) only [go_sem, Nat.reduceBEq, Nat.reduceAdd, Nat.reduceSub, Nat.reduceMul, Nat.reduceLT, Nat.reduceLeDiff, Nat.reduceEqDiff, Int.reduceAdd, Int.reduceSub, Int.reduceMul, Int.reduceNeg, Int.reduceLT, Int.reduceLE, Int.reduceEq, Int.reduceToNat, UInt8.reduceOfNat, reduceCtorEq]
      (repeat (first | (with_reducible refine gskip_of ?_) | (with_reducible refine gcskip_of ?_) | (with_reducible refine gopen_of ?_)) <;> simp (disch := first | omega | (simp only [List.length_append, List.length_cons, List.length_nil, List.length_set, List.length_map, List.length_take, List.length_drop, List.length_range, List.length_replicate, List.length_reverse]; omega)) only [go_sem, Nat.reduceBEq, Nat.reduceAdd, Nat.reduceSub, Nat.reduceMul, Nat.reduceLT, Nat.reduceLeDiff, Nat.reduceEqDiff, Int.reduceAdd, Int.reduceSub, Int.reduceMul, Int.reduceNeg, Int.reduceLT, Int.reduceLE, Int.reduceEq, Int.reduceToNat, UInt8.reduceOfNat, reduceCtorEq])
      refine call_ro awake_ok rfl rfl ?_
      simp (disch := first | omega | (simp only [List.length_append, List.length_cons, List.length_nil, List.length_set, List.length_map, List.length_take, List.length_drop, List.length_range, List.length_replicate, List.length_reverse]; omega)) only [go_sem, Nat.reduceBEq, Nat.reduceAdd, Nat.reduceSub, Nat.reduceMul, Nat.reduceLT, Nat.reduceLeDiff, Nat.reduceEqDiff, Int.reduceAdd, Int.reduceSub, Int.reduceMul, Int.reduceNeg, Int.reduceLT, Int.reduceLE, Int.reduceEq, Int.reduceToNat, UInt8.reduceOfNat, reduceCtorEq]
      refine gcyes_of (callT_ro (by simp (disch := first | omega | (simp only [List.length_append, List.length_cons, List.length_nil, List.length_set, List.length_map, List.length_take, List.length_drop, List.length_range, List.length_replicate, List.length_reverse]; omega)) only [go_sem, Nat.reduceBEq, Nat.reduceAdd, Nat.reduceSub, Nat.reduceMul, Nat.reduceLT, Nat.reduceLeDiff, Nat.reduceEqDiff, Int.reduceAdd, Int.reduceSub, Int.reduceMul, Int.reduceNeg, Int.reduceLT, Int.reduceLE, Int.reduceEq, Int.reduceToNat, UInt8.reduceOfNat, reduceCtorEq]) k1 (by simp (disch := first | omega | (simp only [List.length_append, List.length_cons, List.length_nil, List.length_set, List.length_map, List.length_take, List.length_drop, List.length_range, List.length_replicate, List.length_reverse]; omega)) only [go_sem, Nat.reduceBEq, Nat.reduceAdd, Nat.reduceSub, Nat.reduceMul, Nat.reduceLT, Nat.reduceLeDiff, Nat.reduceEqDiff, Int.reduceAdd, Int.reduceSub, Int.reduceMul, Int.reduceNeg, Int.reduceLT, Int.reduceLE, Int.reduceEq, Int.reduceToNat, UInt8.reduceOfNat, reduceCtorEq]) rfl rfl ?_)
      simp (disch := first | omega | (simp only [List.length_append, List.length_cons, List.length_nil, List.length_set, List.length_map, List.length_take, List.length_drop, List.length_range, List.length_replicate, List.length_reverse]; omega)) only [go_sem, Nat.reduceBEq, Nat.reduceAdd, Nat.reduceSub, Nat.reduceMul, Nat.reduceLT, Nat.reduceLeDiff, Nat.reduceEqDiff, Int.reduceAdd, Int.reduceSub, Int.reduceMul, Int.reduceNeg, Int.reduceLT, Int.reduceLE, Int.reduceEq, Int.reduceToNat, UInt8.reduceOfNat, reduceCtorEq]
      (repeat (first | (with_reducible refine gskip_of ?_) | (with_reducible refine gcskip_of ?_) | (with_reducible refine gopen_of ?_)) <;> simp (disch := first | omega | (simp only [List.length_append, List.length_cons, List.length_nil, List.length_set, List.length_map, List.length_take, List.length_drop, List.length_range, List.length_replicate, List.length_reverse]; omega)) only [go_sem, Nat.reduceBEq, Nat.reduceAdd, Nat.reduceSub, Nat.reduceMul, Nat.reduceLT, Nat.reduceLeDiff, Nat.reduceEqDiff, Int.reduceAdd, Int.reduceSub, Int.reduceMul, Int.reduceNeg, Int.reduceLT, Int.reduceLE, Int.reduceEq, Int.reduceToNat, UInt8.reduceOfNat, reduceCtorEq])
      exact hR.wk (h' := []) (r' := .bool true) (ar' := [.undef, .undef]) rfl (.le (by simp (disch := first | omega | (simp only [List.length_append, List.length_cons, List.length_nil, List.length_set, List.length_map, List.length_take, List.length_drop, List.length_range, List.length_replicate, List.length_reverse]; omega)) only [go_sem, Nat.reduceBEq, Nat.reduceAdd, Nat.reduceSub, Nat.reduceMul, Nat.reduceLT, Nat.reduceLeDiff, Nat.reduceEqDiff, Int.reduceAdd, Int.reduceSub, Int.reduceMul, Int.reduceNeg, Int.reduceLT, Int.reduceLE, Int.reduceEq, Int.reduceToNat, UInt8.reduceOfNat, reduceCtorEq])) ⟨rfl, rfl⟩
  | some v =>
    rw [hp] at h1
    cases hq : parseP b with
    | none =>
      have e2 : majorP b = [] := by rw [majorP, hq]
      rw [hq] at h2
      rw [e2] at k2
      simp only [parseA, verA, noV, Option.getD_none, Option.isSome_none, Option.getD_some, Option.isSome_some] at h1 h2
      simp (disch := first | omega | (simp only [List.length_append, List.length_cons, List.length_nil, List.length_set, List.length_map, List.length_take, List.length_drop, List.length_range, List.length_replicate, List.length_reverse]; omega)) only [go_sem, Nat.reduceBEq, Nat.reduceAdd, Nat.reduceSub, Nat.reduceMul, Nat.reduceLT, Nat.reduceLeDiff, Nat.reduceEqDiff, Int.reduceAdd, Int.reduceSub, Int.reduceMul, Int.reduceNeg, Int.reduceLT, Int.reduceLE, Int.reduceEq, Int.reduceToNat, UInt8.reduceOfNat, reduceCtorEq]
      refine call_ro h1 rfl rfl ?_
      simp (disch := first | omega | (simp only [List.length_append, List.length_cons, List.length_nil, List.length_set, List.length_map, List.length_take, List.length_drop, List.length_range, List.length_replicate, List.length_reverse]; omega)) only [go_sem, Nat.reduceBEq, Nat.reduceAdd, Nat.reduceSub, Nat.reduceMul, Nat.reduceLT, Nat.reduceLeDiff, Nat.reduceEqDiff, Int.reduceAdd, Int.reduceSub, Int.reduceMul, Int.reduceNeg, Int.reduceLT, Int.reduceLE, Int.reduceEq, Int.reduceToNat, UInt8.reduceOfNat, reduceCtorEq]
      refine call_ro h2 rfl rfl ?_
      simp (disch := first | omega | (simp only [List.length_append, List.length_cons, List.length_nil, List.length_set, List.length_map, List.length_take, List.length_drop, List.length_range, List.length_replicate, List.length_reverse]; omega)) only [go_sem, Nat.reduceBEq, Nat.reduceAdd, Nat.reduceSub, Nat.reduceMul, Nat.reduceLT, Nat.reduceLeDiff, Nat.reduceEqDiff, Int.reduceAdd, Int.reduceSub, Int.reduceMul, Int.reduceNeg, Int.reduceLT, Int.reduceLE, Int.reduceEq, Int.reduceToNat, UInt8.reduceOfNat, reduceCtorEq]
      (repeat (first | (with_reducible refine gskip_of ?_) | (with_reducible refine gcskip_of ?_) | (with_reducible refine gopen_of ?_)) <;> simp (disch := first | omega | (simp only [List.length_append, List.length_cons, List.length_nil, List.length_set, List.length_map, List.length_take, List.length_drop, List.length_range, List.length_replicate, List.length_reverse]; omega)) only [go_sem, Nat.reduceBEq, Nat.reduceAdd, Nat.reduceSub, Nat.reduceMul, Nat.reduceLT, Nat.reduceLeDiff, Nat.reduceEqDiff, Int.reduceAdd, Int.reduceSub, Int.reduceMul, Int.reduceNeg, Int.reduceLT, Int.reduceLE, Int.reduceEq, Int.reduceToNat, UInt8.reduceOfNat, reduceCtorEq])
      refine call_ro awake_ok rfl rfl ?_
      simp (disch := first | omega | (simp only [List.length_append, List.length_cons, List.length_nil, List.length_set, List.length_map, List.length_take, List.length_drop, List.length_range, List.length_replicate, List.length_reverse]; omega)) only [go_sem, Nat.reduceBEq, Nat.reduceAdd, Nat.reduceSub, Nat.reduceMul, Nat.reduceLT, Nat.reduceLeDiff, Nat.reduceEqDiff, Int.reduceAdd, Int.reduceSub, Int.reduceMul, Int.reduceNeg, Int.reduceLT, Int.reduceLE, Int.reduceEq, Int.reduceToNat, UInt8.reduceOfNat, reduceCtorEq]
      (repeat (first | (with_reducible refine gskip_of ?_) | (with_reducible refine gcskip_of ?_) | (with_reducible refine gopen_of ?_)) <;> simp (disch := first | omega | (simp only [List.length_append, List.length_cons, List.length_nil, List.length_set, List.length_map, List.length_take, List.length_drop, List.length_range, List.length_replicate, List.length_reverse]; omega)) only [go_sem, Nat.reduceBEq, Nat.reduceAdd, Nat.reduceSub, Nat.reduceMul, Nat.reduceLT, Nat.reduceLeDiff, Nat.reduceEqDiff, Int.reduceAdd, Int.reduceSub, Int.reduceMul, Int.reduceNeg, Int.reduceLT, Int.reduceLE, Int.reduceEq, Int.reduceToNat, UInt8.reduceOfNat, reduceCtorEq])
      refine gcyes_of (callT_ro (by simp (disch := first | omega | (simp only [List.length_append, List.length_cons, List.length_nil, List.length_set, List.length_map, List.length_take, List.length_drop, List.length_range, List.length_replicate, List.length_reverse]; omega)) only [go_sem, Nat.reduceBEq, Nat.reduceAdd, Nat.reduceSub, Nat.reduceMul, Nat.reduceLT, Nat.reduceLeDiff, Nat.reduceEqDiff, Int.reduceAdd, Int.reduceSub, Int.reduceMul, Int.reduceNeg, Int.reduceLT, Int.reduceLE, Int.reduceEq, Int.reduceToNat, UInt8.reduceOfNat, reduceCtorEq]) k2 (by simp (disch := first | omega | (simp only [List.length_append, List.length_cons, List.length_nil, List.length_set, List.length_map, List.length_take, List.length_drop, List.length_range, List.length_replicate, List.length_reverse]; omega)) only [go_sem, Nat.reduceBEq, Nat.reduceAdd, Nat.reduceSub, Nat.reduceMul, Nat.reduceLT, Nat.reduceLeDiff, Nat.reduceEqDiff, Int.reduceAdd, Int.reduceSub, Int.reduceMul, Int.reduceNeg, Int.reduceLT, Int.reduceLE, Int.reduceEq, Int.reduceToNat, UInt8.reduceOfNat, reduceCtorEq]) rfl rfl ?_)
      simp (disch := first | omega | (simp only [List.length_append, List.length_cons, List.length_nil, List.length_set, List.length_map, List.length_take, List.length_drop, List.length_range, List.length_replicate, List.length_reverse]; omega)) only [go_sem, Nat.reduceBEq, Nat.reduceAdd, Nat.reduceSub, Nat.reduceMul, Nat.reduceLT, Nat.reduceLeDiff, Nat.reduceEqDiff, Int.reduceAdd, Int.reduceSub, Int.reduceMul, Int.reduceNeg, Int.reduceLT, Int.reduceLE, Int.reduceEq, Int.reduceToNat, UInt8.reduceOfNat, reduceCtorEq]
      exact hR.wk (h' := []) (r' := .bool true) (ar' := [.undef, .undef]) rfl (.le (by simp (disch := first | omega | (simp only [List.length_append, List.length_cons, List.length_nil, List.length_set, List.length_map, List.length_take, List.length_drop, List.length_range, List.length_replicate, List.length_reverse]; omega)) only [go_sem, Nat.reduceBEq, Nat.reduceAdd, Nat.reduceSub, Nat.reduceMul, Nat.reduceLT, Nat.reduceLeDiff, Nat.reduceEqDiff, Int.reduceAdd, Int.reduceSub, Int.reduceMul, Int.reduceNeg, Int.reduceLT, Int.reduceLE, Int.reduceEq, Int.reduceToNat, UInt8.reduceOfNat, reduceCtorEq])) ⟨rfl, rfl⟩
    | some w =>
      rw [hq] at h2
      have e1 : majorP a = [118] ++ v.mj := by rw [majorP, hp]
      have e2 : majorP b = [118] ++ w.mj := by rw [majorP, hq]
      simp only [parseA, verA, Option.getD_some, Option.isSome_some] at h1 h2
      simp (disch := first | omega | (simp only [List.length_append, List.length_cons, List.length_nil, List.length_set, List.length_map, List.length_take, List.length_drop, List.length_range, List.length_replicate, List.length_reverse]; omega)) only [go_sem, Nat.reduceBEq, Nat.reduceAdd, Nat.reduceSub, Nat.reduceMul, Nat.reduceLT, Nat.reduceLeDiff, Nat.reduceEqDiff, Int.reduceAdd, Int.reduceSub, Int.reduceMul, Int.reduceNeg, Int.reduceLT, Int.reduceLE, Int.reduceEq, Int.reduceToNat, UInt8.reduceOfNat, reduceCtorEq]
      refine call_ro h1 rfl rfl ?_
      simp (disch := first | omega | (simp only [List.length_append, List.length_cons, List.length_nil, List.length_set, List.length_map, List.length_take, List.length_drop, List.length_range, List.length_replicate, List.length_reverse]; omega)) only [go_sem, Nat.reduceBEq, Nat.reduceAdd, Nat.reduceSub, Nat.reduceMul, Nat.reduceLT, Nat.reduceLeDiff, Nat.reduceEqDiff, Int.reduceAdd, Int.reduceSub, Int.reduceMul, Int.reduceNeg, Int.reduceLT, Int.reduceLE, Int.reduceEq, Int.reduceToNat, UInt8.reduceOfNat, reduceCtorEq]
      refine call_ro h2 rfl rfl ?_
      simp (disch := first | omega | (simp only [List.length_append, List.length_cons, List.length_nil, List.length_set, List.length_map, List.length_take, List.length_drop, List.length_range, List.length_replicate, List.length_reverse]; omega)) only [go_sem, Nat.reduceBEq, Nat.reduceAdd, Nat.reduceSub, Nat.reduceMul, Nat.reduceLT, Nat.reduceLeDiff, Nat.reduceEqDiff, Int.reduceAdd, Int.reduceSub, Int.reduceMul, Int.reduceNeg, Int.reduceLT, Int.reduceLE, Int.reduceEq, Int.reduceToNat, UInt8.reduceOfNat, reduceCtorEq]
      refine call_ro k1 rfl rfl ?_
      simp (disch := first | omega | (simp only [List.length_append, List.length_cons, List.length_nil, List.length_set, List.length_map, List.length_take, List.length_drop, List.length_range, List.length_replicate, List.length_reverse]; omega)) only [go_sem, Nat.reduceBEq, Nat.reduceAdd, Nat.reduceSub, Nat.reduceMul, Nat.reduceLT, Nat.reduceLeDiff, Nat.reduceEqDiff, Int.reduceAdd, Int.reduceSub, Int.reduceMul, Int.reduceNeg, Int.reduceLT, Int.reduceLE, Int.reduceEq, Int.reduceToNat, UInt8.reduceOfNat, reduceCtorEq]
      refine call_ro k2 rfl rfl ?_
      by_cases hm : v.mj = w.mj
      · have hmm : majorP a = majorP b := by rw [e1, e2, hm]
        simp (disch := first | omega | (simp only [List.length_append, List.length_cons, List.length_nil, List.length_set, List.length_map, List.length_take, List.length_drop, List.length_range, List.length_replicate, List.length_reverse]; omega)) only [go_sem, Nat.reduceBEq, Nat.reduceAdd, Nat.reduceSub, Nat.reduceMul, Nat.reduceLT, Nat.reduceLeDiff, Nat.reduceEqDiff, Int.reduceAdd, Int.reduceSub, Int.reduceMul, Int.reduceNeg, Int.reduceLT, Int.reduceLE, Int.reduceEq, Int.reduceToNat, UInt8.reduceOfNat, reduceCtorEq, hmm]
        refine call_ro awake_ok rfl rfl ?_
        simp (disch := first | omega | (simp only [List.length_append, List.length_cons, List.length_nil, List.length_set, List.length_map, List.length_take, List.length_drop, List.length_range, List.length_replicate, List.length_reverse]; omega)) only [go_sem, Nat.reduceBEq, Nat.reduceAdd, Nat.reduceSub, Nat.reduceMul, Nat.reduceLT, Nat.reduceLeDiff, Nat.reduceEqDiff, Int.reduceAdd, Int.reduceSub, Int.reduceMul, Int.reduceNeg, Int.reduceLT, Int.reduceLE, Int.reduceEq, Int.reduceToNat, UInt8.reduceOfNat, reduceCtorEq, hm]
        exact hR.wk (h' := []) (r' := .bool true) (ar' := [.undef, .undef]) rfl (.le (by simp (disch := first | omega | (simp only [List.length_append, List.length_cons, List.length_nil, List.length_set, List.length_map, List.length_take, List.length_drop, List.length_range, List.length_replicate, List.length_reverse]; omega)) only [go_sem, Nat.reduceBEq, Nat.reduceAdd, Nat.reduceSub, Nat.reduceMul, Nat.reduceLT, Nat.reduceLeDiff, Nat.reduceEqDiff, Int.reduceAdd, Int.reduceSub, Int.reduceMul, Int.reduceNeg, Int.reduceLT, Int.reduceLE, Int.reduceEq, Int.reduceToNat, UInt8.reduceOfNat, reduceCtorEq])) ⟨rfl, rfl⟩
      · have hmm : ¬ majorP a = majorP b := by rw [e1, e2]; simpa using hm
        obtain ⟨c1, c2, c3⟩ := cmp_major hp hq hm
        rw [c1] at k3
        rw [c2] at k4
        have cu := numCmp_tp.unit v.mj w.mj trivial trivial
        simp (disch := first | omega | (simp only [List.length_append, List.length_cons, List.length_nil, List.length_set, List.length_map, List.length_take, List.length_drop, List.length_range, List.length_replicate, List.length_reverse]; omega)) only [go_sem, Nat.reduceBEq, Nat.reduceAdd, Nat.reduceSub, Nat.reduceMul, Nat.reduceLT, Nat.reduceLeDiff, Nat.reduceEqDiff, Int.reduceAdd, Int.reduceSub, Int.reduceMul, Int.reduceNeg, Int.reduceLT, Int.reduceLE, Int.reduceEq, Int.reduceToNat, UInt8.reduceOfNat, reduceCtorEq, hmm]
        refine call_ro awake_ok rfl rfl ?_
        simp (disch := first | omega | (simp only [List.length_append, List.length_cons, List.length_nil, List.length_set, List.length_map, List.length_take, List.length_drop, List.length_range, List.length_replicate, List.length_reverse]; omega)) only [go_sem, Nat.reduceBEq, Nat.reduceAdd, Nat.reduceSub, Nat.reduceMul, Nat.reduceLT, Nat.reduceLeDiff, Nat.reduceEqDiff, Int.reduceAdd, Int.reduceSub, Int.reduceMul, Int.reduceNeg, Int.reduceLT, Int.reduceLE, Int.reduceEq, Int.reduceToNat, UInt8.reduceOfNat, reduceCtorEq]
        refine gcyes_of (callT_ro (by simp (disch := first | omega | (simp only [List.length_append, List.length_cons, List.length_nil, List.length_set, List.length_map, List.length_take, List.length_drop, List.length_range, List.length_replicate, List.length_reverse]; omega)) only [go_sem, Nat.reduceBEq, Nat.reduceAdd, Nat.reduceSub, Nat.reduceMul, Nat.reduceLT, Nat.reduceLeDiff, Nat.reduceEqDiff, Int.reduceAdd, Int.reduceSub, Int.reduceMul, Int.reduceNeg, Int.reduceLT, Int.reduceLE, Int.reduceEq, Int.reduceToNat, UInt8.reduceOfNat, reduceCtorEq]) k3 (by simp (disch := first | omega | (simp only [List.length_append, List.length_cons, List.length_nil, List.length_set, List.length_map, List.length_take, List.length_drop, List.length_range, List.length_replicate, List.length_reverse]; omega)) only [go_sem, Nat.reduceBEq, Nat.reduceAdd, Nat.reduceSub, Nat.reduceMul, Nat.reduceLT, Nat.reduceLeDiff, Nat.reduceEqDiff, Int.reduceAdd, Int.reduceSub, Int.reduceMul, Int.reduceNeg, Int.reduceLT, Int.reduceLE, Int.reduceEq, Int.reduceToNat, UInt8.reduceOfNat, reduceCtorEq]) rfl rfl ?_)
        simp (disch := first | omega | (simp only [List.length_append, List.length_cons, List.length_nil, List.length_set, List.length_map, List.length_take, List.length_drop, List.length_range, List.length_replicate, List.length_reverse]; omega)) only [go_sem, Nat.reduceBEq, Nat.reduceAdd, Nat.reduceSub, Nat.reduceMul, Nat.reduceLT, Nat.reduceLeDiff, Nat.reduceEqDiff, Int.reduceAdd, Int.reduceSub, Int.reduceMul, Int.reduceNeg, Int.reduceLT, Int.reduceLE, Int.reduceEq, Int.reduceToNat, UInt8.reduceOfNat, reduceCtorEq]
        refine gcyes_of (callT_ro (by simp (disch := first | omega | (simp only [List.length_append, List.length_cons, List.length_nil, List.length_set, List.length_map, List.length_take, List.length_drop, List.length_range, List.length_replicate, List.length_reverse]; omega)) only [go_sem, Nat.reduceBEq, Nat.reduceAdd, Nat.reduceSub, Nat.reduceMul, Nat.reduceLT, Nat.reduceLeDiff, Nat.reduceEqDiff, Int.reduceAdd, Int.reduceSub, Int.reduceMul, Int.reduceNeg, Int.reduceLT, Int.reduceLE, Int.reduceEq, Int.reduceToNat, UInt8.reduceOfNat, reduceCtorEq]) k1 (by simp (disch := first | omega | (simp only [List.length_append, List.length_cons, List.length_nil, List.length_set, List.length_map, List.length_take, List.length_drop, List.length_range, List.length_replicate, List.length_reverse]; omega)) only [go_sem, Nat.reduceBEq, Nat.reduceAdd, Nat.reduceSub, Nat.reduceMul, Nat.reduceLT, Nat.reduceLeDiff, Nat.reduceEqDiff, Int.reduceAdd, Int.reduceSub, Int.reduceMul, Int.reduceNeg, Int.reduceLT, Int.reduceLE, Int.reduceEq, Int.reduceToNat, UInt8.reduceOfNat, reduceCtorEq]) rfl rfl ?_)
        simp (disch := first | omega | (simp only [List.length_append, List.length_cons, List.length_nil, List.length_set, List.length_map, List.length_take, List.length_drop, List.length_range, List.length_replicate, List.length_reverse]; omega)) only [go_sem, Nat.reduceBEq, Nat.reduceAdd, Nat.reduceSub, Nat.reduceMul, Nat.reduceLT, Nat.reduceLeDiff, Nat.reduceEqDiff, Int.reduceAdd, Int.reduceSub, Int.reduceMul, Int.reduceNeg, Int.reduceLT, Int.reduceLE, Int.reduceEq, Int.reduceToNat, UInt8.reduceOfNat, reduceCtorEq]
        refine gcyes_of (callT_ro (by simp (disch := first | omega | (simp only [List.length_append, List.length_cons, List.length_nil, List.length_set, List.length_map, List.length_take, List.length_drop, List.length_range, List.length_replicate, List.length_reverse]; omega)) only [go_sem, Nat.reduceBEq, Nat.reduceAdd, Nat.reduceSub, Nat.reduceMul, Nat.reduceLT, Nat.reduceLeDiff, Nat.reduceEqDiff, Int.reduceAdd, Int.reduceSub, Int.reduceMul, Int.reduceNeg, Int.reduceLT, Int.reduceLE, Int.reduceEq, Int.reduceToNat, UInt8.reduceOfNat, reduceCtorEq]) k2 (by simp (disch := first | omega | (simp only [List.length_append, List.length_cons, List.length_nil, List.length_set, List.length_map, List.length_take, List.length_drop, List.length_range, List.length_replicate, List.length_reverse]; omega)) only [go_sem, Nat.reduceBEq, Nat.reduceAdd, Nat.reduceSub, Nat.reduceMul, Nat.reduceLT, Nat.reduceLeDiff, Nat.reduceEqDiff, Int.reduceAdd, Int.reduceSub, Int.reduceMul, Int.reduceNeg, Int.reduceLT, Int.reduceLE, Int.reduceEq, Int.reduceToNat, UInt8.reduceOfNat, reduceCtorEq]) rfl rfl ?_)
        simp (disch := first | omega | (simp only [List.length_append, List.length_cons, List.length_nil, List.length_set, List.length_map, List.length_take, List.length_drop, List.length_range, List.length_replicate, List.length_reverse]; omega)) only [go_sem, Nat.reduceBEq, Nat.reduceAdd, Nat.reduceSub, Nat.reduceMul, Nat.reduceLT, Nat.reduceLeDiff, Nat.reduceEqDiff, Int.reduceAdd, Int.reduceSub, Int.reduceMul, Int.reduceNeg, Int.reduceLT, Int.reduceLE, Int.reduceEq, Int.reduceToNat, UInt8.reduceOfNat, reduceCtorEq]
        refine gcyes_of (callT_ro (by simp (disch := first | omega | (simp only [List.length_append, List.length_cons, List.length_nil, List.length_set, List.length_map, List.length_take, List.length_drop, List.length_range, List.length_replicate, List.length_reverse]; omega)) only [go_sem, Nat.reduceBEq, Nat.reduceAdd, Nat.reduceSub, Nat.reduceMul, Nat.reduceLT, Nat.reduceLeDiff, Nat.reduceEqDiff, Int.reduceAdd, Int.reduceSub, Int.reduceMul, Int.reduceNeg, Int.reduceLT, Int.reduceLE, Int.reduceEq, Int.reduceToNat, UInt8.reduceOfNat, reduceCtorEq]) k4 (by simp (disch := first | omega | (simp only [List.length_append, List.length_cons, List.length_nil, List.length_set, List.length_map, List.length_take, List.length_drop, List.length_range, List.length_replicate, List.length_reverse]; omega)) only [go_sem, Nat.reduceBEq, Nat.reduceAdd, Nat.reduceSub, Nat.reduceMul, Nat.reduceLT, Nat.reduceLeDiff, Nat.reduceEqDiff, Int.reduceAdd, Int.reduceSub, Int.reduceMul, Int.reduceNeg, Int.reduceLT, Int.reduceLE, Int.reduceEq, Int.reduceToNat, UInt8.reduceOfNat, reduceCtorEq]) rfl rfl ?_)
        simp (disch := first | omega | (simp only [List.length_append, List.length_cons, List.length_nil, List.length_set, List.length_map, List.length_take, List.length_drop, List.length_range, List.length_replicate, List.length_reverse]; omega)) only [go_sem, Nat.reduceBEq, Nat.reduceAdd, Nat.reduceSub, Nat.reduceMul, Nat.reduceLT, Nat.reduceLeDiff, Nat.reduceEqDiff, Int.reduceAdd, Int.reduceSub, Int.reduceMul, Int.reduceNeg, Int.reduceLT, Int.reduceLE, Int.reduceEq, Int.reduceToNat, UInt8.reduceOfNat, reduceCtorEq]
        refine gcyes_of (callT_ro (by simp (disch := first | omega | (simp only [List.length_append, List.length_cons, List.length_nil, List.length_set, List.length_map, List.length_take, List.length_drop, List.length_range, List.length_replicate, List.length_reverse]; omega)) only [go_sem, Nat.reduceBEq, Nat.reduceAdd, Nat.reduceSub, Nat.reduceMul, Nat.reduceLT, Nat.reduceLeDiff, Nat.reduceEqDiff, Int.reduceAdd, Int.reduceSub, Int.reduceMul, Int.reduceNeg, Int.reduceLT, Int.reduceLE, Int.reduceEq, Int.reduceToNat, UInt8.reduceOfNat, reduceCtorEq]) k3 (by simp (disch := first | omega | (simp only [List.length_append, List.length_cons, List.length_nil, List.length_set, List.length_map, List.length_take, List.length_drop, List.length_range, List.length_replicate, List.length_reverse]; omega)) only [go_sem, Nat.reduceBEq, Nat.reduceAdd, Nat.reduceSub, Nat.reduceMul, Nat.reduceLT, Nat.reduceLeDiff, Nat.reduceEqDiff, Int.reduceAdd, Int.reduceSub, Int.reduceMul, Int.reduceNeg, Int.reduceLT, Int.reduceLE, Int.reduceEq, Int.reduceToNat, UInt8.reduceOfNat, reduceCtorEq]) rfl rfl ?_)
        simp (disch := first | omega | (simp only [List.length_append, List.length_cons, List.length_nil, List.length_set, List.length_map, List.length_take, List.length_drop, List.length_range, List.length_replicate, List.length_reverse]; omega)) only [go_sem, Nat.reduceBEq, Nat.reduceAdd, Nat.reduceSub, Nat.reduceMul, Nat.reduceLT, Nat.reduceLeDiff, Nat.reduceEqDiff, Int.reduceAdd, Int.reduceSub, Int.reduceMul, Int.reduceNeg, Int.reduceLT, Int.reduceLE, Int.reduceEq, Int.reduceToNat, UInt8.reduceOfNat, reduceCtorEq, c3]
        exact hR.wk (h' := []) (r' := .bool true) (ar' := [.undef, .undef]) rfl (.le (by simp (disch := first | omega | (simp only [List.length_append, List.length_cons, List.length_nil, List.length_set, List.length_map, List.length_take, List.length_drop, List.length_range, List.length_replicate, List.length_reverse]; omega)) only [go_sem, Nat.reduceBEq, Nat.reduceAdd, Nat.reduceSub, Nat.reduceMul, Nat.reduceLT, Nat.reduceLeDiff, Nat.reduceEqDiff, Int.reduceAdd, Int.reduceSub, Int.reduceMul, Int.reduceNeg, Int.reduceLT, Int.reduceLE, Int.reduceEq, Int.reduceToNat, UInt8.reduceOfNat, reduceCtorEq])) ⟨rfl, rfl⟩
end Go.Proofs.YtjjhicejabggdaaDoor.Sv
