/- semver: a version's canonical form is read back; SemverPlain, SemverNext. -/
import Derived.Test.YtjjhicejabggdaaDoorSvMajor
set_option linter.all false
namespace Go.Proofs.YtjjhicejabggdaaDoor.Sv
open Eng
set_option maxRecDepth 10000
structure VOK (v : Ver) : Prop where
  mj : Num v.mj
  mi : Num v.mi
  pa : Num v.pa
  pr : v.pr = [] ∨ wordsP v.pr true = true
  np : 43 ∉ v.pr
theorem num0 : Num [48] := ⟨rfl, by simp, by simp⟩
theorem cutP_not (c : UInt8) : ∀ (s : Bs), c ∉ (cutP c s).1 ∧ (cutP c s).1.length ≤ s.length
  | [] => by simp [cutP]
  | x :: r => by
    have := cutP_not c r
    simp only [cutP]
    split
    · simp
    · rename_i h
      simp only [List.mem_cons, not_or, List.length_cons]
      exact ⟨⟨fun e => h e.symm, this.1⟩, by omega⟩
theorem cutP_none {c : UInt8} : ∀ {s : Bs}, c ∉ s → cutP c s = (s, [], false)
  | [], _ => rfl
  | x :: r, h => by
    simp only [List.mem_cons, not_or] at h
    rw [cutP, if_neg (fun e => h.1 e.symm), cutP_none h.2]
theorem cutP_some {c : UInt8} : ∀ {s : Bs}, c ∉ s → ∀ b, cutP c (s ++ c :: b) = (s, b, true)
  | [], _, b => by simp [cutP]
  | x :: r, h, b => by
    simp only [List.mem_cons, not_or] at h
    rw [List.cons_append, cutP, if_neg (fun e => h.1 e.symm), cutP_some h.2]
theorem numP_ok {r : Bs} (h : ¬ (numP r).2.2 = false) : Num (numP r).1 ∧ r.length = (numP r).1.length + (numP r).2.1.length := by
  obtain ⟨x, y, z, hq⟩ : ∃ x y z, numP r = (x, y, z) := ⟨_, _, _, rfl⟩
  rw [hq] at h ⊢
  cases z with
  | false => exact absurd rfl h
  | true =>
    obtain ⟨h1, h2⟩ := numP_num hq
    refine ⟨h1, ?_⟩
    rw [h2]; simp
theorem parse7_ok {mj mi pa bu r : Bs} {v : Ver} (h : parse7 mj mi pa bu r = some v) (hr : 43 ∉ r) : v.mj = mj ∧ v.mi = mi ∧ v.pa = pa ∧ (v.pr = [] ∨ wordsP v.pr true = true) ∧ 43 ∉ v.pr ∧ v.pr.length ≤ r.length := by
  unfold parse7 at h
  split at h
  · cases h; simp
  · split at h
    · rename_i hc; cases h
      refine ⟨rfl, rfl, rfl, .inr hc.2, ?_, prefP_len 45 r⟩
      cases r with
      | nil => simp [prefP]
      | cons x t =>
        simp only [List.mem_cons, not_or] at hr
        simp only [prefP]
        split
        · exact hr.2
        · simp only [List.mem_cons, not_or]; exact hr
    · cases h
theorem parse6_ok {mj mi pa r : Bs} {v : Ver} (h : parse6 mj mi pa r = some v) : v.mj = mj ∧ v.mi = mi ∧ v.pa = pa ∧ (v.pr = [] ∨ wordsP v.pr true = true) ∧ 43 ∉ v.pr ∧ v.pr.length ≤ r.length := by
  unfold parse6 at h
  split at h
  · cases h
  · have hc := cutP_not 43 r
    obtain ⟨h1, h2, h3, h4, h5, h6⟩ := parse7_ok h hc.1
    exact ⟨h1, h2, h3, h4, h5, by omega⟩
theorem parse5_ok {mj mi r : Bs} {v : Ver} (h : parse5 mj mi r = some v) : v.mj = mj ∧ v.mi = mi ∧ Num v.pa ∧ (v.pr = [] ∨ wordsP v.pr true = true) ∧ 43 ∉ v.pr ∧ v.pa.length + v.pr.length ≤ r.length := by
  unfold parse5 at h
  split at h
  · cases h
  · rename_i hn
    obtain ⟨n1, n2⟩ := numP_ok hn
    obtain ⟨h1, h2, h3, h4, h5, h6⟩ := parse6_ok h
    exact ⟨h1, h2, by rw [h3]; exact n1, h4, h5, by rw [h3]; omega⟩
theorem parse4_ok {mj mi r : Bs} {v : Ver} (h : parse4 mj mi r = some v) : v.mj = mj ∧ v.mi = mi ∧ Num v.pa ∧ (v.pr = [] ∨ wordsP v.pr true = true) ∧ 43 ∉ v.pr ∧ v.pa.length + v.pr.length ≤ r.length + 1 := by
  unfold parse4 at h
  split at h
  · cases h; exact ⟨rfl, rfl, num0, .inl rfl, by simp, by simp⟩
  · split at h
    · cases h
    · obtain ⟨h1, h2, h3, h4, h5, h6⟩ := parse5_ok h
      rw [List.length_drop] at h6
      exact ⟨h1, h2, h3, h4, h5, by omega⟩
theorem parse3_ok {mj r : Bs} {v : Ver} (h : parse3 mj r = some v) : v.mj = mj ∧ Num v.mi ∧ Num v.pa ∧ (v.pr = [] ∨ wordsP v.pr true = true) ∧ 43 ∉ v.pr ∧ v.mi.length + v.pa.length + v.pr.length ≤ r.length + 1 := by
  unfold parse3 at h
  split at h
  · cases h
  · rename_i hn
    obtain ⟨n1, n2⟩ := numP_ok hn
    obtain ⟨h1, h2, h3, h4, h5, h6⟩ := parse4_ok h
    exact ⟨h1, by rw [h2]; exact n1, h3, h4, h5, by rw [h2]; omega⟩
theorem parse2_ok {mj r : Bs} {v : Ver} (h : parse2 mj r = some v) : v.mj = mj ∧ Num v.mi ∧ Num v.pa ∧ (v.pr = [] ∨ wordsP v.pr true = true) ∧ 43 ∉ v.pr ∧ v.mi.length + v.pa.length + v.pr.length ≤ r.length + 2 := by
  unfold parse2 at h
  split at h
  · cases h; exact ⟨rfl, num0, num0, .inl rfl, by simp, by simp⟩
  · split at h
    · cases h
    · obtain ⟨h1, h2, h3, h4, h5, h6⟩ := parse3_ok h
      rw [List.length_drop] at h6
      exact ⟨h1, h2, h3, h4, h5, by omega⟩
theorem parseP_ok {s : Bs} {v : Ver} (h : parseP s = some v) : VOK v ∧ v.mj.length + v.mi.length + v.pa.length + v.pr.length ≤ s.length + 2 := by
  unfold parseP at h
  have p := prefP_len 118 s
  split at h
  · cases h
  · unfold parse1 at h
    split at h
    · cases h
    · rename_i hn
      obtain ⟨n1, n2⟩ := numP_ok hn
      obtain ⟨h1, h2, h3, h4, h5, h6⟩ := parse2_ok h
      exact ⟨⟨by rw [h1]; exact n1, h2, h3, h4, h5⟩, by rw [h1]; omega⟩
/- READ BACK -/
theorem parse_from {mj mi pa t : Bs} (h1 : Num mj) (h2 : Num mi) (h3 : Num pa) (ht : t = [] ∨ isD (t.getD 0 0) = false) (hl : mj.length + mi.length + pa.length + t.length + 3 ≤ 100) :
    parseP ([118] ++ mj ++ [46] ++ mi ++ [46] ++ pa ++ t) = parse6 mj mi pa t := by
  have e : [118] ++ mj ++ [46] ++ mi ++ [46] ++ pa ++ t = 118 :: (mj ++ (46 :: (mi ++ (46 :: (pa ++ t))))) := by simp
  have d46 : isD 46 = false := rfl
  have n1 := numP_app (t := 46 :: (mi ++ (46 :: (pa ++ t)))) h1 (.inr d46)
  have n2 := numP_app (t := 46 :: (pa ++ t)) h2 (.inr d46)
  have n3 := numP_app h3 ht
  have hp : ∀ r : Bs, prefP 118 (118 :: r) = (r, true) := fun r => by simp [prefP]
  have g46 : ∀ r : Bs, ((46 :: r).getD 0 0).toNat = 46 := fun _ => rfl
  rw [e, parseP, hp, if_neg (by simp; omega), parse1, n1, if_neg (by simp), parse2, if_neg (by simp), if_neg (fun h => h (g46 _)), List.drop_one, List.tail_cons, parse3, n2, if_neg (by simp), parse4, if_neg (by simp), if_neg (fun h => h (g46 _)), List.drop_one, List.tail_cons, parse5, n3, if_neg (by simp)]
def prT (p : Bs) : Bs := if p = [] then [] else 45 :: p
theorem canonV_eq (v : Ver) : canonV v = [118] ++ v.mj ++ [46] ++ v.mi ++ [46] ++ v.pa ++ prT v.pr := by
  unfold canonV prT
  split <;> simp
theorem prT_np {p : Bs} (h : 43 ∉ p) : 43 ∉ prT p := by
  unfold prT
  split
  · simp
  · simp only [List.mem_cons, not_or]; exact ⟨by decide, h⟩
theorem parse7_pr (mj mi pa bu : Bs) {p : Bs} (h : p = [] ∨ wordsP p true = true) : parse7 mj mi pa bu (prT p) = some ⟨mj, mi, pa, p, bu, 0⟩ := by
  unfold parse7 prT
  by_cases hp : p = []
  · subst hp; simp
  · rw [if_neg hp, if_neg (by simp)]
    have : prefP 45 (45 :: p) = (p, true) := by simp [prefP]
    rw [this, if_pos ⟨rfl, h.resolve_left hp⟩]
theorem prT_len (p : Bs) : (prT p).length ≤ p.length + 1 := by unfold prT; split <;> simp
theorem canonV_len (v : Ver) : (canonV v).length ≤ v.mj.length + v.mi.length + v.pa.length + v.pr.length + 4 ∧ (canonV v).length = v.mj.length + v.mi.length + v.pa.length + (prT v.pr).length + 3 := by
  have := prT_len v.pr
  rw [canonV_eq]
  simp only [List.length_append, List.length_cons, List.length_nil]
  omega
theorem canonV_ne (v : Ver) : canonV v ≠ [] := by rw [canonV_eq]; simp
theorem parse_canon {v : Ver} (h : VOK v) (hl : (canonV v).length ≤ 100) : parseP (canonV v) = some ⟨v.mj, v.mi, v.pa, v.pr, [], 0⟩ := by
  rw [(canonV_len v).2] at hl
  have ht : prT v.pr = [] ∨ isD ((prT v.pr).getD 0 0) = false := by
    unfold prT; split
    · exact .inl rfl
    · exact .inr rfl
  rw [canonV_eq, parse_from h.mj h.mi h.pa ht (by omega), parse6, cutP_none (prT_np h.np), if_neg (fun e => by cases e.1)]
  exact parse7_pr _ _ _ _ h.pr
theorem parse_build {v : Ver} (h : VOK v) (b : Bs) : parseP (canonV v ++ [43] ++ b) = none ∨ parseP (canonV v ++ [43] ++ b) = some ⟨v.mj, v.mi, v.pa, v.pr, b, 0⟩ := by
  by_cases hl : 100 < (canonV v ++ [43] ++ b).length
  · exact .inl (by rw [parseP, if_pos (.inr hl)])
  have e : canonV v ++ [43] ++ b = [118] ++ v.mj ++ [46] ++ v.mi ++ [46] ++ v.pa ++ (prT v.pr ++ 43 :: b) := by rw [canonV_eq]; simp
  rw [e] at hl ⊢
  have ht : prT v.pr ++ 43 :: b = [] ∨ isD ((prT v.pr ++ 43 :: b).getD 0 0) = false := by
    unfold prT; split
    · exact .inr rfl
    · exact .inr rfl
  simp only [List.length_append, List.length_cons, List.length_nil] at hl
  rw [parse_from h.mj h.mi h.pa ht (by simp only [List.length_append, List.length_cons]; omega), parse6, cutP_some (prT_np h.np)]
  by_cases hw : wordsP b false = false
  · exact .inl (by rw [if_pos ⟨rfl, hw⟩])
  · rw [if_neg (fun e => hw e.2)]
    exact .inr (parse7_pr _ _ _ _ h.pr)
theorem byWordsP_refl (p : Bs) : byWordsP p p = 0 := by rw [byWordsP, if_pos rfl]
theorem cmpV_same {v w : Ver} (h1 : v.mj = w.mj) (h2 : v.mi = w.mi) (h3 : v.pa = w.pa) : cmpV v w = byWordsP v.pr w.pr := by
  rw [cmpV, h1, h2, h3, numCmp_refl, numCmp_refl, numCmp_refl]; rfl
theorem canonP_len (s : Bs) : (canonP s).length ≤ 500 := by
  unfold canonP
  split
  · simp
  · rename_i v h
    have := parseP_len h
    have := (canonV_len v).1
    omega
theorem semverPlain_ok (a : Bs) (ha : a.length ≤ 9223372036854775807) : SpecR Tryd.prog 7 [.str a] (.bool true) := by
  refine Cod.lplain_spec (fun E R hN hR => ?_)
  have h1 := parse_ok a ha
  have h2 := canonical_ok a ha
  have h3 := major_ok a ha
  have cl := canonP_len a
  cases hp : parseP a with
  | none =>
    have e1 : canonP a = [] := by rw [canonP, hp]
    have e2 : majorP a = [] := by rw [majorP, hp]
    rw [hp] at h1
    rw [e1] at h2
    rw [e2] at h3
    simp only [parseA, verA, noV, Option.getD_none, Option.isSome_none] at h1
    simp (disch := first | omega | (simp only [List.length_append, List.length_cons, List.length_nil, List.length_set, List.length_map, List.length_take, List.length_drop, List.length_range, List.length_replicate, List.length_reverse]; omega)) only [go_sem, Nat.reduceBEq, Nat.reduceAdd, Nat.reduceSub, Nat.reduceMul, Nat.reduceLT, Nat.reduceLeDiff, Nat.reduceEqDiff, Int.reduceAdd, Int.reduceSub, Int.reduceMul, Int.reduceNeg, Int.reduceLT, Int.reduceLE, Int.reduceEq, Int.reduceToNat, UInt8.reduceOfNat, reduceCtorEq]
    refine call_ro h2 rfl rfl ?_
    simp (disch := first | omega | (simp only [List.length_append, List.length_cons, List.length_nil, List.length_set, List.length_map, List.length_take, List.length_drop, List.length_range, List.length_replicate, List.length_reverse]; omega)) only [go_sem, Nat.reduceBEq, Nat.reduceAdd, Nat.reduceSub, Nat.reduceMul, Nat.reduceLT, Nat.reduceLeDiff, Nat.reduceEqDiff, Int.reduceAdd, Int.reduceSub, Int.reduceMul, Int.reduceNeg, Int.reduceLT, Int.reduceLE, Int.reduceEq, Int.reduceToNat, UInt8.reduceOfNat, reduceCtorEq]
    refine call_ro h1 rfl rfl ?_
    simp (disch := first | omega | (simp only [List.length_append, List.length_cons, List.length_nil, List.length_set, List.length_map, List.length_take, List.length_drop, List.length_range, List.length_replicate, List.length_reverse]; omega)) only [go_sem, Nat.reduceBEq, Nat.reduceAdd, Nat.reduceSub, Nat.reduceMul, Nat.reduceLT, Nat.reduceLeDiff, Nat.reduceEqDiff, Int.reduceAdd, Int.reduceSub, Int.reduceMul, Int.reduceNeg, Int.reduceLT, Int.reduceLE, Int.reduceEq, Int.reduceToNat, UInt8.reduceOfNat, reduceCtorEq]
    refine call_ro awake_ok rfl rfl ?_
    simp (disch := first | omega | (simp only [List.length_append, List.length_cons, List.length_nil, List.length_set, List.length_map, List.length_take, List.length_drop, List.length_range, List.length_replicate, List.length_reverse]; omega)) only [go_sem, Nat.reduceBEq, Nat.reduceAdd, Nat.reduceSub, Nat.reduceMul, Nat.reduceLT, Nat.reduceLeDiff, Nat.reduceEqDiff, Int.reduceAdd, Int.reduceSub, Int.reduceMul, Int.reduceNeg, Int.reduceLT, Int.reduceLE, Int.reduceEq, Int.reduceToNat, UInt8.reduceOfNat, reduceCtorEq]
    refine gcyes_of (callT_ro (by simp (disch := first | omega | (simp only [List.length_append, List.length_cons, List.length_nil, List.length_set, List.length_map, List.length_take, List.length_drop, List.length_range, List.length_replicate, List.length_reverse]; omega)) only [go_sem, Nat.reduceBEq, Nat.reduceAdd, Nat.reduceSub, Nat.reduceMul, Nat.reduceLT, Nat.reduceLeDiff, Nat.reduceEqDiff, Int.reduceAdd, Int.reduceSub, Int.reduceMul, Int.reduceNeg, Int.reduceLT, Int.reduceLE, Int.reduceEq, Int.reduceToNat, UInt8.reduceOfNat, reduceCtorEq]) h3 (by simp (disch := first | omega | (simp only [List.length_append, List.length_cons, List.length_nil, List.length_set, List.length_map, List.length_take, List.length_drop, List.length_range, List.length_replicate, List.length_reverse]; omega)) only [go_sem, Nat.reduceBEq, Nat.reduceAdd, Nat.reduceSub, Nat.reduceMul, Nat.reduceLT, Nat.reduceLeDiff, Nat.reduceEqDiff, Int.reduceAdd, Int.reduceSub, Int.reduceMul, Int.reduceNeg, Int.reduceLT, Int.reduceLE, Int.reduceEq, Int.reduceToNat, UInt8.reduceOfNat, reduceCtorEq]) rfl rfl ?_)
    simp (disch := first | omega | (simp only [List.length_append, List.length_cons, List.length_nil, List.length_set, List.length_map, List.length_take, List.length_drop, List.length_range, List.length_replicate, List.length_reverse]; omega)) only [go_sem, Nat.reduceBEq, Nat.reduceAdd, Nat.reduceSub, Nat.reduceMul, Nat.reduceLT, Nat.reduceLeDiff, Nat.reduceEqDiff, Int.reduceAdd, Int.reduceSub, Int.reduceMul, Int.reduceNeg, Int.reduceLT, Int.reduceLE, Int.reduceEq, Int.reduceToNat, UInt8.reduceOfNat, reduceCtorEq]
    exact hR.wk (h' := []) (r' := .bool true) (ar' := [.undef]) rfl (.le (by simp (disch := first | omega | (simp only [List.length_append, List.length_cons, List.length_nil, List.length_set, List.length_map, List.length_take, List.length_drop, List.length_range, List.length_replicate, List.length_reverse]; omega)) only [go_sem, Nat.reduceBEq, Nat.reduceAdd, Nat.reduceSub, Nat.reduceMul, Nat.reduceLT, Nat.reduceLeDiff, Nat.reduceEqDiff, Int.reduceAdd, Int.reduceSub, Int.reduceMul, Int.reduceNeg, Int.reduceLT, Int.reduceLE, Int.reduceEq, Int.reduceToNat, UInt8.reduceOfNat, reduceCtorEq])) ⟨rfl, rfl⟩
  | some v =>
    have e1 : canonP a = canonV v := by rw [canonP, hp]
    have e2 : majorP a = [118] ++ v.mj := by rw [majorP, hp]
    rw [e1] at h2 cl
    have hne := canonV_ne v
    obtain ⟨hv, hs⟩ := parseP_ok hp
    by_cases hl : 100 < (canonV v).length
    · simp (disch := first | omega | (simp only [List.length_append, List.length_cons, List.length_nil, List.length_set, List.length_map, List.length_take, List.length_drop, List.length_range, List.length_replicate, List.length_reverse]; omega)) only [go_sem, Nat.reduceBEq, Nat.reduceAdd, Nat.reduceSub, Nat.reduceMul, Nat.reduceLT, Nat.reduceLeDiff, Nat.reduceEqDiff, Int.reduceAdd, Int.reduceSub, Int.reduceMul, Int.reduceNeg, Int.reduceLT, Int.reduceLE, Int.reduceEq, Int.reduceToNat, UInt8.reduceOfNat, reduceCtorEq, hne]
      refine call_ro h2 rfl rfl ?_
      simp (disch := first | omega | (simp only [List.length_append, List.length_cons, List.length_nil, List.length_set, List.length_map, List.length_take, List.length_drop, List.length_range, List.length_replicate, List.length_reverse]; omega)) only [go_sem, Nat.reduceBEq, Nat.reduceAdd, Nat.reduceSub, Nat.reduceMul, Nat.reduceLT, Nat.reduceLeDiff, Nat.reduceEqDiff, Int.reduceAdd, Int.reduceSub, Int.reduceMul, Int.reduceNeg, Int.reduceLT, Int.reduceLE, Int.reduceEq, Int.reduceToNat, UInt8.reduceOfNat, reduceCtorEq, hne]
      refine call_ro awake_ok rfl rfl ?_
      simp (disch := first | omega | (simp only [List.length_append, List.length_cons, List.length_nil, List.length_set, List.length_map, List.length_take, List.length_drop, List.length_range, List.length_replicate, List.length_reverse]; omega)) only [go_sem, Nat.reduceBEq, Nat.reduceAdd, Nat.reduceSub, Nat.reduceMul, Nat.reduceLT, Nat.reduceLeDiff, Nat.reduceEqDiff, Int.reduceAdd, Int.reduceSub, Int.reduceMul, Int.reduceNeg, Int.reduceLT, Int.reduceLE, Int.reduceEq, Int.reduceToNat, UInt8.reduceOfNat, reduceCtorEq]
      exact hR.wk (h' := []) (r' := .bool true) (ar' := [.undef]) rfl (.le (by simp (disch := first | omega | (simp only [List.length_append, List.length_cons, List.length_nil, List.length_set, List.length_map, List.length_take, List.length_drop, List.length_range, List.length_replicate, List.length_reverse]; omega)) only [go_sem, Nat.reduceBEq, Nat.reduceAdd, Nat.reduceSub, Nat.reduceMul, Nat.reduceLT, Nat.reduceLeDiff, Nat.reduceEqDiff, Int.reduceAdd, Int.reduceSub, Int.reduceMul, Int.reduceNeg, Int.reduceLT, Int.reduceLE, Int.reduceEq, Int.reduceToNat, UInt8.reduceOfNat, reduceCtorEq])) ⟨rfl, rfl⟩
    · have hc := parse_canon hv (by omega)
      have k1 := canonical_ok (canonV v) (by omega)
      have k2 := compare_ok a (canonV v) ha (by omega)
      have k3 := major_ok (canonV v) (by omega)
      have c1 : canonP (canonV v) = canonV v := by rw [canonP, hc]; rfl
      have c2 : cmpP a (canonV v) = 0 := by
        rw [cmpP, hp, hc]
        exact (cmpV_same rfl rfl rfl).trans (byWordsP_refl _)
      have c3 : majorP (canonV v) = majorP a := by rw [majorP, hc, e2]
      rw [c1] at k1
      rw [c2] at k2
      rw [c3] at k3
      simp (disch := first | omega | (simp only [List.length_append, List.length_cons, List.length_nil, List.length_set, List.length_map, List.length_take, List.length_drop, List.length_range, List.length_replicate, List.length_reverse]; omega)) only [go_sem, Nat.reduceBEq, Nat.reduceAdd, Nat.reduceSub, Nat.reduceMul, Nat.reduceLT, Nat.reduceLeDiff, Nat.reduceEqDiff, Int.reduceAdd, Int.reduceSub, Int.reduceMul, Int.reduceNeg, Int.reduceLT, Int.reduceLE, Int.reduceEq, Int.reduceToNat, UInt8.reduceOfNat, reduceCtorEq, hne]
      refine call_ro h2 rfl rfl ?_
      simp (disch := first | omega | (simp only [List.length_append, List.length_cons, List.length_nil, List.length_set, List.length_map, List.length_take, List.length_drop, List.length_range, List.length_replicate, List.length_reverse]; omega)) only [go_sem, Nat.reduceBEq, Nat.reduceAdd, Nat.reduceSub, Nat.reduceMul, Nat.reduceLT, Nat.reduceLeDiff, Nat.reduceEqDiff, Int.reduceAdd, Int.reduceSub, Int.reduceMul, Int.reduceNeg, Int.reduceLT, Int.reduceLE, Int.reduceEq, Int.reduceToNat, UInt8.reduceOfNat, reduceCtorEq, hne]
      refine call_ro awake_ok rfl rfl ?_
      simp (disch := first | omega | (simp only [List.length_append, List.length_cons, List.length_nil, List.length_set, List.length_map, List.length_take, List.length_drop, List.length_range, List.length_replicate, List.length_reverse]; omega)) only [go_sem, Nat.reduceBEq, Nat.reduceAdd, Nat.reduceSub, Nat.reduceMul, Nat.reduceLT, Nat.reduceLeDiff, Nat.reduceEqDiff, Int.reduceAdd, Int.reduceSub, Int.reduceMul, Int.reduceNeg, Int.reduceLT, Int.reduceLE, Int.reduceEq, Int.reduceToNat, UInt8.reduceOfNat, reduceCtorEq]
      refine gcyes_of (callT_ro (by simp (disch := first | omega | (simp only [List.length_append, List.length_cons, List.length_nil, List.length_set, List.length_map, List.length_take, List.length_drop, List.length_range, List.length_replicate, List.length_reverse]; omega)) only [go_sem, Nat.reduceBEq, Nat.reduceAdd, Nat.reduceSub, Nat.reduceMul, Nat.reduceLT, Nat.reduceLeDiff, Nat.reduceEqDiff, Int.reduceAdd, Int.reduceSub, Int.reduceMul, Int.reduceNeg, Int.reduceLT, Int.reduceLE, Int.reduceEq, Int.reduceToNat, UInt8.reduceOfNat, reduceCtorEq]) k1 (by simp (disch := first | omega | (simp only [List.length_append, List.length_cons, List.length_nil, List.length_set, List.length_map, List.length_take, List.length_drop, List.length_range, List.length_replicate, List.length_reverse]; omega)) only [go_sem, Nat.reduceBEq, Nat.reduceAdd, Nat.reduceSub, Nat.reduceMul, Nat.reduceLT, Nat.reduceLeDiff, Nat.reduceEqDiff, Int.reduceAdd, Int.reduceSub, Int.reduceMul, Int.reduceNeg, Int.reduceLT, Int.reduceLE, Int.reduceEq, Int.reduceToNat, UInt8.reduceOfNat, reduceCtorEq]) rfl rfl ?_)
      simp (disch := first | omega | (simp only [List.length_append, List.length_cons, List.length_nil, List.length_set, List.length_map, List.length_take, List.length_drop, List.length_range, List.length_replicate, List.length_reverse]; omega)) only [go_sem, Nat.reduceBEq, Nat.reduceAdd, Nat.reduceSub, Nat.reduceMul, Nat.reduceLT, Nat.reduceLeDiff, Nat.reduceEqDiff, Int.reduceAdd, Int.reduceSub, Int.reduceMul, Int.reduceNeg, Int.reduceLT, Int.reduceLE, Int.reduceEq, Int.reduceToNat, UInt8.reduceOfNat, reduceCtorEq]
      refine gcyes_of (callT_ro (by simp (disch := first | omega | (simp only [List.length_append, List.length_cons, List.length_nil, List.length_set, List.length_map, List.length_take, List.length_drop, List.length_range, List.length_replicate, List.length_reverse]; omega)) only [go_sem, Nat.reduceBEq, Nat.reduceAdd, Nat.reduceSub, Nat.reduceMul, Nat.reduceLT, Nat.reduceLeDiff, Nat.reduceEqDiff, Int.reduceAdd, Int.reduceSub, Int.reduceMul, Int.reduceNeg, Int.reduceLT, Int.reduceLE, Int.reduceEq, Int.reduceToNat, UInt8.reduceOfNat, reduceCtorEq]) k2 (by simp (disch := first | omega | (simp only [List.length_append, List.length_cons, List.length_nil, List.length_set, List.length_map, List.length_take, List.length_drop, List.length_range, List.length_replicate, List.length_reverse]; omega)) only [go_sem, Nat.reduceBEq, Nat.reduceAdd, Nat.reduceSub, Nat.reduceMul, Nat.reduceLT, Nat.reduceLeDiff, Nat.reduceEqDiff, Int.reduceAdd, Int.reduceSub, Int.reduceMul, Int.reduceNeg, Int.reduceLT, Int.reduceLE, Int.reduceEq, Int.reduceToNat, UInt8.reduceOfNat, reduceCtorEq]) rfl rfl ?_)
      simp (disch := first | omega | (simp only [List.length_append, List.length_cons, List.length_nil, List.length_set, List.length_map, List.length_take, List.length_drop, List.length_range, List.length_replicate, List.length_reverse]; omega)) only [go_sem, Nat.reduceBEq, Nat.reduceAdd, Nat.reduceSub, Nat.reduceMul, Nat.reduceLT, Nat.reduceLeDiff, Nat.reduceEqDiff, Int.reduceAdd, Int.reduceSub, Int.reduceMul, Int.reduceNeg, Int.reduceLT, Int.reduceLE, Int.reduceEq, Int.reduceToNat, UInt8.reduceOfNat, reduceCtorEq]
      refine gcyes_of (callT_ro (by simp (disch := first | omega | (simp only [List.length_append, List.length_cons, List.length_nil, List.length_set, List.length_map, List.length_take, List.length_drop, List.length_range, List.length_replicate, List.length_reverse]; omega)) only [go_sem, Nat.reduceBEq, Nat.reduceAdd, Nat.reduceSub, Nat.reduceMul, Nat.reduceLT, Nat.reduceLeDiff, Nat.reduceEqDiff, Int.reduceAdd, Int.reduceSub, Int.reduceMul, Int.reduceNeg, Int.reduceLT, Int.reduceLE, Int.reduceEq, Int.reduceToNat, UInt8.reduceOfNat, reduceCtorEq]) h3 (by simp (disch := first | omega | (simp only [List.length_append, List.length_cons, List.length_nil, List.length_set, List.length_map, List.length_take, List.length_drop, List.length_range, List.length_replicate, List.length_reverse]; omega)) only [go_sem, Nat.reduceBEq, Nat.reduceAdd, Nat.reduceSub, Nat.reduceMul, Nat.reduceLT, Nat.reduceLeDiff, Nat.reduceEqDiff, Int.reduceAdd, Int.reduceSub, Int.reduceMul, Int.reduceNeg, Int.reduceLT, Int.reduceLE, Int.reduceEq, Int.reduceToNat, UInt8.reduceOfNat, reduceCtorEq]) rfl rfl ?_)
      simp (disch := first | omega | (simp only [List.length_append, List.length_cons, List.length_nil, List.length_set, List.length_map, List.length_take, List.length_drop, List.length_range, List.length_replicate, List.length_reverse]; omega)) only [go_sem, Nat.reduceBEq, Nat.reduceAdd, Nat.reduceSub, Nat.reduceMul, Nat.reduceLT, Nat.reduceLeDiff, Nat.reduceEqDiff, Int.reduceAdd, Int.reduceSub, Int.reduceMul, Int.reduceNeg, Int.reduceLT, Int.reduceLE, Int.reduceEq, Int.reduceToNat, UInt8.reduceOfNat, reduceCtorEq]
      refine gcyes_of (callT_ro (by simp (disch := first | omega | (simp only [List.length_append, List.length_cons, List.length_nil, List.length_set, List.length_map, List.length_take, List.length_drop, List.length_range, List.length_replicate, List.length_reverse]; omega)) only [go_sem, Nat.reduceBEq, Nat.reduceAdd, Nat.reduceSub, Nat.reduceMul, Nat.reduceLT, Nat.reduceLeDiff, Nat.reduceEqDiff, Int.reduceAdd, Int.reduceSub, Int.reduceMul, Int.reduceNeg, Int.reduceLT, Int.reduceLE, Int.reduceEq, Int.reduceToNat, UInt8.reduceOfNat, reduceCtorEq]) k3 (by simp (disch := first | omega | (simp only [List.length_append, List.length_cons, List.length_nil, List.length_set, List.length_map, List.length_take, List.length_drop, List.length_range, List.length_replicate, List.length_reverse]; omega)) only [go_sem, Nat.reduceBEq, Nat.reduceAdd, Nat.reduceSub, Nat.reduceMul, Nat.reduceLT, Nat.reduceLeDiff, Nat.reduceEqDiff, Int.reduceAdd, Int.reduceSub, Int.reduceMul, Int.reduceNeg, Int.reduceLT, Int.reduceLE, Int.reduceEq, Int.reduceToNat, UInt8.reduceOfNat, reduceCtorEq]) rfl rfl ?_)
      simp (disch := first | omega | (simp only [List.length_append, List.length_cons, List.length_nil, List.length_set, List.length_map, List.length_take, List.length_drop, List.length_range, List.length_replicate, List.length_reverse]; omega)) only [go_sem, Nat.reduceBEq, Nat.reduceAdd, Nat.reduceSub, Nat.reduceMul, Nat.reduceLT, Nat.reduceLeDiff, Nat.reduceEqDiff, Int.reduceAdd, Int.reduceSub, Int.reduceMul, Int.reduceNeg, Int.reduceLT, Int.reduceLE, Int.reduceEq, Int.reduceToNat, UInt8.reduceOfNat, reduceCtorEq]
      exact hR.wk (h' := []) (r' := .bool true) (ar' := [.undef]) rfl (.le (by simp (disch := first | omega | (simp only [List.length_append, List.length_cons, List.length_nil, List.length_set, List.length_map, List.length_take, List.length_drop, List.length_range, List.length_replicate, List.length_reverse]; omega)) only [go_sem, Nat.reduceBEq, Nat.reduceAdd, Nat.reduceSub, Nat.reduceMul, Nat.reduceLT, Nat.reduceLeDiff, Nat.reduceEqDiff, Int.reduceAdd, Int.reduceSub, Int.reduceMul, Int.reduceNeg, Int.reduceLT, Int.reduceLE, Int.reduceEq, Int.reduceToNat, UInt8.reduceOfNat, reduceCtorEq])) ⟨rfl, rfl⟩
theorem semverNext_ok (a b : Bs) (ha : a.length ≤ 9223372036854775807) (hb : b.length ≤ 140737488351232) : SpecR Tryd.prog 4 [.str a, .str b] (.bool true) := by
  refine Cod.lnext_spec (fun E R hN hR => ?_)
  have h1 := parse_ok a ha
  have h2 := canonical_ok a ha
  cases hp : parseP a with
  | none =>
    rw [hp] at h1
    simp only [parseA, verA, noV, Option.getD_none, Option.isSome_none] at h1
    simp (disch := first | omega | (simp only [List.length_append, List.length_cons, List.length_nil, List.length_set, List.length_map, List.length_take, List.length_drop, List.length_range, List.length_replicate, List.length_reverse]; omega)) only [go_sem, Nat.reduceBEq, Nat.reduceAdd, Nat.reduceSub, Nat.reduceMul, Nat.reduceLT, Nat.reduceLeDiff, Nat.reduceEqDiff, Int.reduceAdd, Int.reduceSub, Int.reduceMul, Int.reduceNeg, Int.reduceLT, Int.reduceLE, Int.reduceEq, Int.reduceToNat, UInt8.reduceOfNat, reduceCtorEq]
    refine call_ro h1 rfl rfl ?_
    simp (disch := first | omega | (simp only [List.length_append, List.length_cons, List.length_nil, List.length_set, List.length_map, List.length_take, List.length_drop, List.length_range, List.length_replicate, List.length_reverse]; omega)) only [go_sem, Nat.reduceBEq, Nat.reduceAdd, Nat.reduceSub, Nat.reduceMul, Nat.reduceLT, Nat.reduceLeDiff, Nat.reduceEqDiff, Int.reduceAdd, Int.reduceSub, Int.reduceMul, Int.reduceNeg, Int.reduceLT, Int.reduceLE, Int.reduceEq, Int.reduceToNat, UInt8.reduceOfNat, reduceCtorEq]
    (repeat (first | (with_reducible refine gskip_of ?_) | (with_reducible refine gcskip_of ?_) | (with_reducible refine gopen_of ?_)) <;> simp (disch := first | omega | (simp only [List.length_append, List.length_cons, List.length_nil, List.length_set, List.length_map, List.length_take, List.length_drop, List.length_range, List.length_replicate, List.length_reverse]; omega)) only [go_sem, Nat.reduceBEq, Nat.reduceAdd, Nat.reduceSub, Nat.reduceMul, Nat.reduceLT, Nat.reduceLeDiff, Nat.reduceEqDiff, Int.reduceAdd, Int.reduceSub, Int.reduceMul, Int.reduceNeg, Int.reduceLT, Int.reduceLE, Int.reduceEq, Int.reduceToNat, UInt8.reduceOfNat, reduceCtorEq])
    refine call_ro awake_ok rfl rfl ?_
    simp (disch := first | omega | (simp only [List.length_append, List.length_cons, List.length_nil, List.length_set, List.length_map, List.length_take, List.length_drop, List.length_range, List.length_replicate, List.length_reverse]; omega)) only [go_sem, Nat.reduceBEq, Nat.reduceAdd, Nat.reduceSub, Nat.reduceMul, Nat.reduceLT, Nat.reduceLeDiff, Nat.reduceEqDiff, Int.reduceAdd, Int.reduceSub, Int.reduceMul, Int.reduceNeg, Int.reduceLT, Int.reduceLE, Int.reduceEq, Int.reduceToNat, UInt8.reduceOfNat, reduceCtorEq]
    exact hR.wk (h' := []) (r' := .bool true) (ar' := [.undef, .undef]) rfl (.le (by simp (disch := first | omega | (simp only [List.length_append, List.length_cons, List.length_nil, List.length_set, List.length_map, List.length_take, List.length_drop, List.length_range, List.length_replicate, List.length_reverse]; omega)) only [go_sem, Nat.reduceBEq, Nat.reduceAdd, Nat.reduceSub, Nat.reduceMul, Nat.reduceLT, Nat.reduceLeDiff, Nat.reduceEqDiff, Int.reduceAdd, Int.reduceSub, Int.reduceMul, Int.reduceNeg, Int.reduceLT, Int.reduceLE, Int.reduceEq, Int.reduceToNat, UInt8.reduceOfNat, reduceCtorEq])) ⟨rfl, rfl⟩
  | some v =>
    rw [hp] at h1
    simp only [parseA, verA, Option.getD_some, Option.isSome_some] at h1
    by_cases h60 : 60 < a.length
    · simp (disch := first | omega | (simp only [List.length_append, List.length_cons, List.length_nil, List.length_set, List.length_map, List.length_take, List.length_drop, List.length_range, List.length_replicate, List.length_reverse]; omega)) only [go_sem, Nat.reduceBEq, Nat.reduceAdd, Nat.reduceSub, Nat.reduceMul, Nat.reduceLT, Nat.reduceLeDiff, Nat.reduceEqDiff, Int.reduceAdd, Int.reduceSub, Int.reduceMul, Int.reduceNeg, Int.reduceLT, Int.reduceLE, Int.reduceEq, Int.reduceToNat, UInt8.reduceOfNat, reduceCtorEq]
      refine call_ro h1 rfl rfl ?_
      simp (disch := first | omega | (simp only [List.length_append, List.length_cons, List.length_nil, List.length_set, List.length_map, List.length_take, List.length_drop, List.length_range, List.length_replicate, List.length_reverse]; omega)) only [go_sem, Nat.reduceBEq, Nat.reduceAdd, Nat.reduceSub, Nat.reduceMul, Nat.reduceLT, Nat.reduceLeDiff, Nat.reduceEqDiff, Int.reduceAdd, Int.reduceSub, Int.reduceMul, Int.reduceNeg, Int.reduceLT, Int.reduceLE, Int.reduceEq, Int.reduceToNat, UInt8.reduceOfNat, reduceCtorEq]
      refine call_ro awake_ok rfl rfl ?_
      simp (disch := first | omega | (simp only [List.length_append, List.length_cons, List.length_nil, List.length_set, List.length_map, List.length_take, List.length_drop, List.length_range, List.length_replicate, List.length_reverse]; omega)) only [go_sem, Nat.reduceBEq, Nat.reduceAdd, Nat.reduceSub, Nat.reduceMul, Nat.reduceLT, Nat.reduceLeDiff, Nat.reduceEqDiff, Int.reduceAdd, Int.reduceSub, Int.reduceMul, Int.reduceNeg, Int.reduceLT, Int.reduceLE, Int.reduceEq, Int.reduceToNat, UInt8.reduceOfNat, reduceCtorEq]
      exact hR.wk (h' := []) (r' := .bool true) (ar' := [.undef, .undef]) rfl (.le (by simp (disch := first | omega | (simp only [List.length_append, List.length_cons, List.length_nil, List.length_set, List.length_map, List.length_take, List.length_drop, List.length_range, List.length_replicate, List.length_reverse]; omega)) only [go_sem, Nat.reduceBEq, Nat.reduceAdd, Nat.reduceSub, Nat.reduceMul, Nat.reduceLT, Nat.reduceLeDiff, Nat.reduceEqDiff, Int.reduceAdd, Int.reduceSub, Int.reduceMul, Int.reduceNeg, Int.reduceLT, Int.reduceLE, Int.reduceEq, Int.reduceToNat, UInt8.reduceOfNat, reduceCtorEq])) ⟨rfl, rfl⟩
    have e1 : canonP a = canonV v := by rw [canonP, hp]
    rw [e1] at h2
    obtain ⟨hv, hs⟩ := parseP_ok hp
    obtain ⟨cl1, cl2⟩ := canonV_len v
    -- the bare release
    have p1 : parseP ([118] ++ v.mj ++ [46] ++ v.mi ++ [46] ++ v.pa) = some ⟨v.mj, v.mi, v.pa, [], [], 0⟩ := by
      have := parse_from (t := []) hv.mj hv.mi hv.pa (.inl rfl) (by simp; omega)
      rw [List.append_nil] at this
      rw [this]; rfl
    have n9 : Num ([57] ++ v.pa) := ⟨by simp only [List.all_append, hv.pa.1, Bool.and_true]; rfl, by simp, fun _ => by simp⟩
    have p9 : parseP ([118] ++ v.mj ++ [46] ++ v.mi ++ [46] ++ [57] ++ v.pa) = some ⟨v.mj, v.mi, [57] ++ v.pa, [], [], 0⟩ := by
      have := parse_from (t := []) hv.mj hv.mi n9 (.inl rfl) (by simp; omega)
      rw [List.append_nil] at this
      rw [show [118] ++ v.mj ++ [46] ++ v.mi ++ [46] ++ [57] ++ v.pa = [118] ++ v.mj ++ [46] ++ v.mi ++ [46] ++ ([57] ++ v.pa) by simp, this]; rfl
    have c9 : cmpP a ([118] ++ v.mj ++ [46] ++ v.mi ++ [46] ++ [57] ++ v.pa) = -1 := by
      rw [cmpP, hp, p9]
      show cmpV _ _ = -1
      have : numCmp v.pa ([57] ++ v.pa) = -1 := by
        unfold numCmp
        rw [if_neg (by simp), if_pos (by simp)]
      rw [cmpV, numCmp_refl, numCmp_refl]
      simp only [this]; rfl
    have k9 := compare_ok a ([118] ++ v.mj ++ [46] ++ v.mi ++ [46] ++ [57] ++ v.pa) ha (by simp; omega)
    rw [c9] at k9
    have kt := parse_ok (canonV v ++ [43] ++ b) (by simp; omega)
    have ke := compare_ok [] a (by decide) ha
    have ce : cmpP [] a = -1 := by
      rw [cmpP, hp]; rfl
    rw [ce] at ke
    have kc := compare_ok a (canonV v ++ [43] ++ b) ha (by simp; omega)
    rcases parse_build hv b with hb0 | hb0
    · rw [hb0] at kt
      simp only [parseA, verA, noV, Option.getD_none, Option.isSome_none] at kt
      by_cases hpr : v.pr = []
      · simp (disch := first | omega | (simp only [List.length_append, List.length_cons, List.length_nil, List.length_set, List.length_map, List.length_take, List.length_drop, List.length_range, List.length_replicate, List.length_reverse]; omega)) only [go_sem, Nat.reduceBEq, Nat.reduceAdd, Nat.reduceSub, Nat.reduceMul, Nat.reduceLT, Nat.reduceLeDiff, Nat.reduceEqDiff, Int.reduceAdd, Int.reduceSub, Int.reduceMul, Int.reduceNeg, Int.reduceLT, Int.reduceLE, Int.reduceEq, Int.reduceToNat, UInt8.reduceOfNat, reduceCtorEq, hpr]
        refine call_ro h1 rfl rfl ?_
        simp (disch := first | omega | (simp only [List.length_append, List.length_cons, List.length_nil, List.length_set, List.length_map, List.length_take, List.length_drop, List.length_range, List.length_replicate, List.length_reverse]; omega)) only [go_sem, Nat.reduceBEq, Nat.reduceAdd, Nat.reduceSub, Nat.reduceMul, Nat.reduceLT, Nat.reduceLeDiff, Nat.reduceEqDiff, Int.reduceAdd, Int.reduceSub, Int.reduceMul, Int.reduceNeg, Int.reduceLT, Int.reduceLE, Int.reduceEq, Int.reduceToNat, UInt8.reduceOfNat, reduceCtorEq, hpr]
        (repeat (first | (with_reducible refine gskip_of ?_) | (with_reducible refine gcskip_of ?_) | (with_reducible refine gopen_of ?_)) <;> simp (disch := first | omega | (simp only [List.length_append, List.length_cons, List.length_nil, List.length_set, List.length_map, List.length_take, List.length_drop, List.length_range, List.length_replicate, List.length_reverse]; omega)) only [go_sem, Nat.reduceBEq, Nat.reduceAdd, Nat.reduceSub, Nat.reduceMul, Nat.reduceLT, Nat.reduceLeDiff, Nat.reduceEqDiff, Int.reduceAdd, Int.reduceSub, Int.reduceMul, Int.reduceNeg, Int.reduceLT, Int.reduceLE, Int.reduceEq, Int.reduceToNat, UInt8.reduceOfNat, reduceCtorEq, hpr])
        refine gcyes_of (callT_ro (by simp (disch := first | omega | (simp only [List.length_append, List.length_cons, List.length_nil, List.length_set, List.length_map, List.length_take, List.length_drop, List.length_range, List.length_replicate, List.length_reverse]; omega)) only [go_sem, Nat.reduceBEq, Nat.reduceAdd, Nat.reduceSub, Nat.reduceMul, Nat.reduceLT, Nat.reduceLeDiff, Nat.reduceEqDiff, Int.reduceAdd, Int.reduceSub, Int.reduceMul, Int.reduceNeg, Int.reduceLT, Int.reduceLE, Int.reduceEq, Int.reduceToNat, UInt8.reduceOfNat, reduceCtorEq]) k9 (by simp (disch := first | omega | (simp only [List.length_append, List.length_cons, List.length_nil, List.length_set, List.length_map, List.length_take, List.length_drop, List.length_range, List.length_replicate, List.length_reverse]; omega)) only [go_sem, Nat.reduceBEq, Nat.reduceAdd, Nat.reduceSub, Nat.reduceMul, Nat.reduceLT, Nat.reduceLeDiff, Nat.reduceEqDiff, Int.reduceAdd, Int.reduceSub, Int.reduceMul, Int.reduceNeg, Int.reduceLT, Int.reduceLE, Int.reduceEq, Int.reduceToNat, UInt8.reduceOfNat, reduceCtorEq]) rfl rfl ?_)
        simp (disch := first | omega | (simp only [List.length_append, List.length_cons, List.length_nil, List.length_set, List.length_map, List.length_take, List.length_drop, List.length_range, List.length_replicate, List.length_reverse]; omega)) only [go_sem, Nat.reduceBEq, Nat.reduceAdd, Nat.reduceSub, Nat.reduceMul, Nat.reduceLT, Nat.reduceLeDiff, Nat.reduceEqDiff, Int.reduceAdd, Int.reduceSub, Int.reduceMul, Int.reduceNeg, Int.reduceLT, Int.reduceLE, Int.reduceEq, Int.reduceToNat, UInt8.reduceOfNat, reduceCtorEq, hpr]
        refine call_ro h2 rfl rfl ?_
        simp (disch := first | omega | (simp only [List.length_append, List.length_cons, List.length_nil, List.length_set, List.length_map, List.length_take, List.length_drop, List.length_range, List.length_replicate, List.length_reverse]; omega)) only [go_sem, Nat.reduceBEq, Nat.reduceAdd, Nat.reduceSub, Nat.reduceMul, Nat.reduceLT, Nat.reduceLeDiff, Nat.reduceEqDiff, Int.reduceAdd, Int.reduceSub, Int.reduceMul, Int.reduceNeg, Int.reduceLT, Int.reduceLE, Int.reduceEq, Int.reduceToNat, UInt8.reduceOfNat, reduceCtorEq]
        refine call_ro kt rfl rfl ?_
        simp (disch := first | omega | (simp only [List.length_append, List.length_cons, List.length_nil, List.length_set, List.length_map, List.length_take, List.length_drop, List.length_range, List.length_replicate, List.length_reverse]; omega)) only [go_sem, Nat.reduceBEq, Nat.reduceAdd, Nat.reduceSub, Nat.reduceMul, Nat.reduceLT, Nat.reduceLeDiff, Nat.reduceEqDiff, Int.reduceAdd, Int.reduceSub, Int.reduceMul, Int.reduceNeg, Int.reduceLT, Int.reduceLE, Int.reduceEq, Int.reduceToNat, UInt8.reduceOfNat, reduceCtorEq]
        refine call_ro awake_ok rfl rfl ?_
        simp (disch := first | omega | (simp only [List.length_append, List.length_cons, List.length_nil, List.length_set, List.length_map, List.length_take, List.length_drop, List.length_range, List.length_replicate, List.length_reverse]; omega)) only [go_sem, Nat.reduceBEq, Nat.reduceAdd, Nat.reduceSub, Nat.reduceMul, Nat.reduceLT, Nat.reduceLeDiff, Nat.reduceEqDiff, Int.reduceAdd, Int.reduceSub, Int.reduceMul, Int.reduceNeg, Int.reduceLT, Int.reduceLE, Int.reduceEq, Int.reduceToNat, UInt8.reduceOfNat, reduceCtorEq]
        (repeat (first | (with_reducible refine gskip_of ?_) | (with_reducible refine gcskip_of ?_) | (with_reducible refine gopen_of ?_)) <;> simp (disch := first | omega | (simp only [List.length_append, List.length_cons, List.length_nil, List.length_set, List.length_map, List.length_take, List.length_drop, List.length_range, List.length_replicate, List.length_reverse]; omega)) only [go_sem, Nat.reduceBEq, Nat.reduceAdd, Nat.reduceSub, Nat.reduceMul, Nat.reduceLT, Nat.reduceLeDiff, Nat.reduceEqDiff, Int.reduceAdd, Int.reduceSub, Int.reduceMul, Int.reduceNeg, Int.reduceLT, Int.reduceLE, Int.reduceEq, Int.reduceToNat, UInt8.reduceOfNat, reduceCtorEq])
        refine gcyes_of (callT_ro (by simp (disch := first | omega | (simp only [List.length_append, List.length_cons, List.length_nil, List.length_set, List.length_map, List.length_take, List.length_drop, List.length_range, List.length_replicate, List.length_reverse]; omega)) only [go_sem, Nat.reduceBEq, Nat.reduceAdd, Nat.reduceSub, Nat.reduceMul, Nat.reduceLT, Nat.reduceLeDiff, Nat.reduceEqDiff, Int.reduceAdd, Int.reduceSub, Int.reduceMul, Int.reduceNeg, Int.reduceLT, Int.reduceLE, Int.reduceEq, Int.reduceToNat, UInt8.reduceOfNat, reduceCtorEq]) ke (by simp (disch := first | omega | (simp only [List.length_append, List.length_cons, List.length_nil, List.length_set, List.length_map, List.length_take, List.length_drop, List.length_range, List.length_replicate, List.length_reverse]; omega)) only [go_sem, Nat.reduceBEq, Nat.reduceAdd, Nat.reduceSub, Nat.reduceMul, Nat.reduceLT, Nat.reduceLeDiff, Nat.reduceEqDiff, Int.reduceAdd, Int.reduceSub, Int.reduceMul, Int.reduceNeg, Int.reduceLT, Int.reduceLE, Int.reduceEq, Int.reduceToNat, UInt8.reduceOfNat, reduceCtorEq]) rfl rfl ?_)
        simp (disch := first | omega | (simp only [List.length_append, List.length_cons, List.length_nil, List.length_set, List.length_map, List.length_take, List.length_drop, List.length_range, List.length_replicate, List.length_reverse]; omega)) only [go_sem, Nat.reduceBEq, Nat.reduceAdd, Nat.reduceSub, Nat.reduceMul, Nat.reduceLT, Nat.reduceLeDiff, Nat.reduceEqDiff, Int.reduceAdd, Int.reduceSub, Int.reduceMul, Int.reduceNeg, Int.reduceLT, Int.reduceLE, Int.reduceEq, Int.reduceToNat, UInt8.reduceOfNat, reduceCtorEq]
        exact hR.wk (h' := []) (r' := .bool true) (ar' := [.undef, .undef]) rfl (.le (by simp (disch := first | omega | (simp only [List.length_append, List.length_cons, List.length_nil, List.length_set, List.length_map, List.length_take, List.length_drop, List.length_range, List.length_replicate, List.length_reverse]; omega)) only [go_sem, Nat.reduceBEq, Nat.reduceAdd, Nat.reduceSub, Nat.reduceMul, Nat.reduceLT, Nat.reduceLeDiff, Nat.reduceEqDiff, Int.reduceAdd, Int.reduceSub, Int.reduceMul, Int.reduceNeg, Int.reduceLT, Int.reduceLE, Int.reduceEq, Int.reduceToNat, UInt8.reduceOfNat, reduceCtorEq])) ⟨rfl, rfl⟩
      · have cp : cmpP a ([118] ++ v.mj ++ [46] ++ v.mi ++ [46] ++ v.pa) = -1 := by
          rw [cmpP, hp, p1]
          refine (cmpV_same (v := v) (w := ⟨v.mj, v.mi, v.pa, [], [], 0⟩) rfl rfl rfl).trans ?_
          show byWordsP v.pr [] = -1
          rw [byWordsP, if_neg hpr, if_neg hpr, if_pos rfl]
        have kp := compare_ok a ([118] ++ v.mj ++ [46] ++ v.mi ++ [46] ++ v.pa) ha (by simp; omega)
        rw [cp] at kp
        simp (disch := first | omega | (simp only [List.length_append, List.length_cons, List.length_nil, List.length_set, List.length_map, List.length_take, List.length_drop, List.length_range, List.length_replicate, List.length_reverse]; omega)) only [go_sem, Nat.reduceBEq, Nat.reduceAdd, Nat.reduceSub, Nat.reduceMul, Nat.reduceLT, Nat.reduceLeDiff, Nat.reduceEqDiff, Int.reduceAdd, Int.reduceSub, Int.reduceMul, Int.reduceNeg, Int.reduceLT, Int.reduceLE, Int.reduceEq, Int.reduceToNat, UInt8.reduceOfNat, reduceCtorEq, hpr]
        refine call_ro h1 rfl rfl ?_
        simp (disch := first | omega | (simp only [List.length_append, List.length_cons, List.length_nil, List.length_set, List.length_map, List.length_take, List.length_drop, List.length_range, List.length_replicate, List.length_reverse]; omega)) only [go_sem, Nat.reduceBEq, Nat.reduceAdd, Nat.reduceSub, Nat.reduceMul, Nat.reduceLT, Nat.reduceLeDiff, Nat.reduceEqDiff, Int.reduceAdd, Int.reduceSub, Int.reduceMul, Int.reduceNeg, Int.reduceLT, Int.reduceLE, Int.reduceEq, Int.reduceToNat, UInt8.reduceOfNat, reduceCtorEq, hpr]
        refine gcyes_of (callT_ro (by simp (disch := first | omega | (simp only [List.length_append, List.length_cons, List.length_nil, List.length_set, List.length_map, List.length_take, List.length_drop, List.length_range, List.length_replicate, List.length_reverse]; omega)) only [go_sem, Nat.reduceBEq, Nat.reduceAdd, Nat.reduceSub, Nat.reduceMul, Nat.reduceLT, Nat.reduceLeDiff, Nat.reduceEqDiff, Int.reduceAdd, Int.reduceSub, Int.reduceMul, Int.reduceNeg, Int.reduceLT, Int.reduceLE, Int.reduceEq, Int.reduceToNat, UInt8.reduceOfNat, reduceCtorEq]) kp (by simp (disch := first | omega | (simp only [List.length_append, List.length_cons, List.length_nil, List.length_set, List.length_map, List.length_take, List.length_drop, List.length_range, List.length_replicate, List.length_reverse]; omega)) only [go_sem, Nat.reduceBEq, Nat.reduceAdd, Nat.reduceSub, Nat.reduceMul, Nat.reduceLT, Nat.reduceLeDiff, Nat.reduceEqDiff, Int.reduceAdd, Int.reduceSub, Int.reduceMul, Int.reduceNeg, Int.reduceLT, Int.reduceLE, Int.reduceEq, Int.reduceToNat, UInt8.reduceOfNat, reduceCtorEq]) rfl rfl ?_)
        simp (disch := first | omega | (simp only [List.length_append, List.length_cons, List.length_nil, List.length_set, List.length_map, List.length_take, List.length_drop, List.length_range, List.length_replicate, List.length_reverse]; omega)) only [go_sem, Nat.reduceBEq, Nat.reduceAdd, Nat.reduceSub, Nat.reduceMul, Nat.reduceLT, Nat.reduceLeDiff, Nat.reduceEqDiff, Int.reduceAdd, Int.reduceSub, Int.reduceMul, Int.reduceNeg, Int.reduceLT, Int.reduceLE, Int.reduceEq, Int.reduceToNat, UInt8.reduceOfNat, reduceCtorEq, hpr]
        refine gcyes_of (callT_ro (by simp (disch := first | omega | (simp only [List.length_append, List.length_cons, List.length_nil, List.length_set, List.length_map, List.length_take, List.length_drop, List.length_range, List.length_replicate, List.length_reverse]; omega)) only [go_sem, Nat.reduceBEq, Nat.reduceAdd, Nat.reduceSub, Nat.reduceMul, Nat.reduceLT, Nat.reduceLeDiff, Nat.reduceEqDiff, Int.reduceAdd, Int.reduceSub, Int.reduceMul, Int.reduceNeg, Int.reduceLT, Int.reduceLE, Int.reduceEq, Int.reduceToNat, UInt8.reduceOfNat, reduceCtorEq]) k9 (by simp (disch := first | omega | (simp only [List.length_append, List.length_cons, List.length_nil, List.length_set, List.length_map, List.length_take, List.length_drop, List.length_range, List.length_replicate, List.length_reverse]; omega)) only [go_sem, Nat.reduceBEq, Nat.reduceAdd, Nat.reduceSub, Nat.reduceMul, Nat.reduceLT, Nat.reduceLeDiff, Nat.reduceEqDiff, Int.reduceAdd, Int.reduceSub, Int.reduceMul, Int.reduceNeg, Int.reduceLT, Int.reduceLE, Int.reduceEq, Int.reduceToNat, UInt8.reduceOfNat, reduceCtorEq]) rfl rfl ?_)
        simp (disch := first | omega | (simp only [List.length_append, List.length_cons, List.length_nil, List.length_set, List.length_map, List.length_take, List.length_drop, List.length_range, List.length_replicate, List.length_reverse]; omega)) only [go_sem, Nat.reduceBEq, Nat.reduceAdd, Nat.reduceSub, Nat.reduceMul, Nat.reduceLT, Nat.reduceLeDiff, Nat.reduceEqDiff, Int.reduceAdd, Int.reduceSub, Int.reduceMul, Int.reduceNeg, Int.reduceLT, Int.reduceLE, Int.reduceEq, Int.reduceToNat, UInt8.reduceOfNat, reduceCtorEq, hpr]
        refine call_ro h2 rfl rfl ?_
        simp (disch := first | omega | (simp only [List.length_append, List.length_cons, List.length_nil, List.length_set, List.length_map, List.length_take, List.length_drop, List.length_range, List.length_replicate, List.length_reverse]; omega)) only [go_sem, Nat.reduceBEq, Nat.reduceAdd, Nat.reduceSub, Nat.reduceMul, Nat.reduceLT, Nat.reduceLeDiff, Nat.reduceEqDiff, Int.reduceAdd, Int.reduceSub, Int.reduceMul, Int.reduceNeg, Int.reduceLT, Int.reduceLE, Int.reduceEq, Int.reduceToNat, UInt8.reduceOfNat, reduceCtorEq]
        refine call_ro kt rfl rfl ?_
        simp (disch := first | omega | (simp only [List.length_append, List.length_cons, List.length_nil, List.length_set, List.length_map, List.length_take, List.length_drop, List.length_range, List.length_replicate, List.length_reverse]; omega)) only [go_sem, Nat.reduceBEq, Nat.reduceAdd, Nat.reduceSub, Nat.reduceMul, Nat.reduceLT, Nat.reduceLeDiff, Nat.reduceEqDiff, Int.reduceAdd, Int.reduceSub, Int.reduceMul, Int.reduceNeg, Int.reduceLT, Int.reduceLE, Int.reduceEq, Int.reduceToNat, UInt8.reduceOfNat, reduceCtorEq]
        refine call_ro awake_ok rfl rfl ?_
        simp (disch := first | omega | (simp only [List.length_append, List.length_cons, List.length_nil, List.length_set, List.length_map, List.length_take, List.length_drop, List.length_range, List.length_replicate, List.length_reverse]; omega)) only [go_sem, Nat.reduceBEq, Nat.reduceAdd, Nat.reduceSub, Nat.reduceMul, Nat.reduceLT, Nat.reduceLeDiff, Nat.reduceEqDiff, Int.reduceAdd, Int.reduceSub, Int.reduceMul, Int.reduceNeg, Int.reduceLT, Int.reduceLE, Int.reduceEq, Int.reduceToNat, UInt8.reduceOfNat, reduceCtorEq]
        (repeat (first | (with_reducible refine gskip_of ?_) | (with_reducible refine gcskip_of ?_) | (with_reducible refine gopen_of ?_)) <;> simp (disch := first | omega | (simp only [List.length_append, List.length_cons, List.length_nil, List.length_set, List.length_map, List.length_take, List.length_drop, List.length_range, List.length_replicate, List.length_reverse]; omega)) only [go_sem, Nat.reduceBEq, Nat.reduceAdd, Nat.reduceSub, Nat.reduceMul, Nat.reduceLT, Nat.reduceLeDiff, Nat.reduceEqDiff, Int.reduceAdd, Int.reduceSub, Int.reduceMul, Int.reduceNeg, Int.reduceLT, Int.reduceLE, Int.reduceEq, Int.reduceToNat, UInt8.reduceOfNat, reduceCtorEq])
        refine gcyes_of (callT_ro (by simp (disch := first | omega | (simp only [List.length_append, List.length_cons, List.length_nil, List.length_set, List.length_map, List.length_take, List.length_drop, List.length_range, List.length_replicate, List.length_reverse]; omega)) only [go_sem, Nat.reduceBEq, Nat.reduceAdd, Nat.reduceSub, Nat.reduceMul, Nat.reduceLT, Nat.reduceLeDiff, Nat.reduceEqDiff, Int.reduceAdd, Int.reduceSub, Int.reduceMul, Int.reduceNeg, Int.reduceLT, Int.reduceLE, Int.reduceEq, Int.reduceToNat, UInt8.reduceOfNat, reduceCtorEq]) ke (by simp (disch := first | omega | (simp only [List.length_append, List.length_cons, List.length_nil, List.length_set, List.length_map, List.length_take, List.length_drop, List.length_range, List.length_replicate, List.length_reverse]; omega)) only [go_sem, Nat.reduceBEq, Nat.reduceAdd, Nat.reduceSub, Nat.reduceMul, Nat.reduceLT, Nat.reduceLeDiff, Nat.reduceEqDiff, Int.reduceAdd, Int.reduceSub, Int.reduceMul, Int.reduceNeg, Int.reduceLT, Int.reduceLE, Int.reduceEq, Int.reduceToNat, UInt8.reduceOfNat, reduceCtorEq]) rfl rfl ?_)
        simp (disch := first | omega | (simp only [List.length_append, List.length_cons, List.length_nil, List.length_set, List.length_map, List.length_take, List.length_drop, List.length_range, List.length_replicate, List.length_reverse]; omega)) only [go_sem, Nat.reduceBEq, Nat.reduceAdd, Nat.reduceSub, Nat.reduceMul, Nat.reduceLT, Nat.reduceLeDiff, Nat.reduceEqDiff, Int.reduceAdd, Int.reduceSub, Int.reduceMul, Int.reduceNeg, Int.reduceLT, Int.reduceLE, Int.reduceEq, Int.reduceToNat, UInt8.reduceOfNat, reduceCtorEq]
        exact hR.wk (h' := []) (r' := .bool true) (ar' := [.undef, .undef]) rfl (.le (by simp (disch := first | omega | (simp only [List.length_append, List.length_cons, List.length_nil, List.length_set, List.length_map, List.length_take, List.length_drop, List.length_range, List.length_replicate, List.length_reverse]; omega)) only [go_sem, Nat.reduceBEq, Nat.reduceAdd, Nat.reduceSub, Nat.reduceMul, Nat.reduceLT, Nat.reduceLeDiff, Nat.reduceEqDiff, Int.reduceAdd, Int.reduceSub, Int.reduceMul, Int.reduceNeg, Int.reduceLT, Int.reduceLE, Int.reduceEq, Int.reduceToNat, UInt8.reduceOfNat, reduceCtorEq])) ⟨rfl, rfl⟩
    · rw [hb0] at kt
      have cz : cmpP a (canonV v ++ [43] ++ b) = 0 := by
        rw [cmpP, hp, hb0]
        exact (cmpV_same rfl rfl rfl).trans (byWordsP_refl _)
      rw [cz] at kc
      simp only [parseA, verA, Option.getD_some, Option.isSome_some] at kt
      by_cases hpr : v.pr = []
      · simp (disch := first | omega | (simp only [List.length_append, List.length_cons, List.length_nil, List.length_set, List.length_map, List.length_take, List.length_drop, List.length_range, List.length_replicate, List.length_reverse]; omega)) only [go_sem, Nat.reduceBEq, Nat.reduceAdd, Nat.reduceSub, Nat.reduceMul, Nat.reduceLT, Nat.reduceLeDiff, Nat.reduceEqDiff, Int.reduceAdd, Int.reduceSub, Int.reduceMul, Int.reduceNeg, Int.reduceLT, Int.reduceLE, Int.reduceEq, Int.reduceToNat, UInt8.reduceOfNat, reduceCtorEq, hpr]
        refine call_ro h1 rfl rfl ?_
        simp (disch := first | omega | (simp only [List.length_append, List.length_cons, List.length_nil, List.length_set, List.length_map, List.length_take, List.length_drop, List.length_range, List.length_replicate, List.length_reverse]; omega)) only [go_sem, Nat.reduceBEq, Nat.reduceAdd, Nat.reduceSub, Nat.reduceMul, Nat.reduceLT, Nat.reduceLeDiff, Nat.reduceEqDiff, Int.reduceAdd, Int.reduceSub, Int.reduceMul, Int.reduceNeg, Int.reduceLT, Int.reduceLE, Int.reduceEq, Int.reduceToNat, UInt8.reduceOfNat, reduceCtorEq, hpr]
        (repeat (first | (with_reducible refine gskip_of ?_) | (with_reducible refine gcskip_of ?_) | (with_reducible refine gopen_of ?_)) <;> simp (disch := first | omega | (simp only [List.length_append, List.length_cons, List.length_nil, List.length_set, List.length_map, List.length_take, List.length_drop, List.length_range, List.length_replicate, List.length_reverse]; omega)) only [go_sem, Nat.reduceBEq, Nat.reduceAdd, Nat.reduceSub, Nat.reduceMul, Nat.reduceLT, Nat.reduceLeDiff, Nat.reduceEqDiff, Int.reduceAdd, Int.reduceSub, Int.reduceMul, Int.reduceNeg, Int.reduceLT, Int.reduceLE, Int.reduceEq, Int.reduceToNat, UInt8.reduceOfNat, reduceCtorEq, hpr])
        refine gcyes_of (callT_ro (by simp (disch := first | omega | (simp only [List.length_append, List.length_cons, List.length_nil, List.length_set, List.length_map, List.length_take, List.length_drop, List.length_range, List.length_replicate, List.length_reverse]; omega)) only [go_sem, Nat.reduceBEq, Nat.reduceAdd, Nat.reduceSub, Nat.reduceMul, Nat.reduceLT, Nat.reduceLeDiff, Nat.reduceEqDiff, Int.reduceAdd, Int.reduceSub, Int.reduceMul, Int.reduceNeg, Int.reduceLT, Int.reduceLE, Int.reduceEq, Int.reduceToNat, UInt8.reduceOfNat, reduceCtorEq]) k9 (by simp (disch := first | omega | (simp only [List.length_append, List.length_cons, List.length_nil, List.length_set, List.length_map, List.length_take, List.length_drop, List.length_range, List.length_replicate, List.length_reverse]; omega)) only [go_sem, Nat.reduceBEq, Nat.reduceAdd, Nat.reduceSub, Nat.reduceMul, Nat.reduceLT, Nat.reduceLeDiff, Nat.reduceEqDiff, Int.reduceAdd, Int.reduceSub, Int.reduceMul, Int.reduceNeg, Int.reduceLT, Int.reduceLE, Int.reduceEq, Int.reduceToNat, UInt8.reduceOfNat, reduceCtorEq]) rfl rfl ?_)
        simp (disch := first | omega | (simp only [List.length_append, List.length_cons, List.length_nil, List.length_set, List.length_map, List.length_take, List.length_drop, List.length_range, List.length_replicate, List.length_reverse]; omega)) only [go_sem, Nat.reduceBEq, Nat.reduceAdd, Nat.reduceSub, Nat.reduceMul, Nat.reduceLT, Nat.reduceLeDiff, Nat.reduceEqDiff, Int.reduceAdd, Int.reduceSub, Int.reduceMul, Int.reduceNeg, Int.reduceLT, Int.reduceLE, Int.reduceEq, Int.reduceToNat, UInt8.reduceOfNat, reduceCtorEq, hpr]
        refine call_ro h2 rfl rfl ?_
        simp (disch := first | omega | (simp only [List.length_append, List.length_cons, List.length_nil, List.length_set, List.length_map, List.length_take, List.length_drop, List.length_range, List.length_replicate, List.length_reverse]; omega)) only [go_sem, Nat.reduceBEq, Nat.reduceAdd, Nat.reduceSub, Nat.reduceMul, Nat.reduceLT, Nat.reduceLeDiff, Nat.reduceEqDiff, Int.reduceAdd, Int.reduceSub, Int.reduceMul, Int.reduceNeg, Int.reduceLT, Int.reduceLE, Int.reduceEq, Int.reduceToNat, UInt8.reduceOfNat, reduceCtorEq]
        refine call_ro kt rfl rfl ?_
        simp (disch := first | omega | (simp only [List.length_append, List.length_cons, List.length_nil, List.length_set, List.length_map, List.length_take, List.length_drop, List.length_range, List.length_replicate, List.length_reverse]; omega)) only [go_sem, Nat.reduceBEq, Nat.reduceAdd, Nat.reduceSub, Nat.reduceMul, Nat.reduceLT, Nat.reduceLeDiff, Nat.reduceEqDiff, Int.reduceAdd, Int.reduceSub, Int.reduceMul, Int.reduceNeg, Int.reduceLT, Int.reduceLE, Int.reduceEq, Int.reduceToNat, UInt8.reduceOfNat, reduceCtorEq]
        refine call_ro awake_ok rfl rfl ?_
        simp (disch := first | omega | (simp only [List.length_append, List.length_cons, List.length_nil, List.length_set, List.length_map, List.length_take, List.length_drop, List.length_range, List.length_replicate, List.length_reverse]; omega)) only [go_sem, Nat.reduceBEq, Nat.reduceAdd, Nat.reduceSub, Nat.reduceMul, Nat.reduceLT, Nat.reduceLeDiff, Nat.reduceEqDiff, Int.reduceAdd, Int.reduceSub, Int.reduceMul, Int.reduceNeg, Int.reduceLT, Int.reduceLE, Int.reduceEq, Int.reduceToNat, UInt8.reduceOfNat, reduceCtorEq]
        refine gcyes_of (callT_ro (by simp (disch := first | omega | (simp only [List.length_append, List.length_cons, List.length_nil, List.length_set, List.length_map, List.length_take, List.length_drop, List.length_range, List.length_replicate, List.length_reverse]; omega)) only [go_sem, Nat.reduceBEq, Nat.reduceAdd, Nat.reduceSub, Nat.reduceMul, Nat.reduceLT, Nat.reduceLeDiff, Nat.reduceEqDiff, Int.reduceAdd, Int.reduceSub, Int.reduceMul, Int.reduceNeg, Int.reduceLT, Int.reduceLE, Int.reduceEq, Int.reduceToNat, UInt8.reduceOfNat, reduceCtorEq]) kc (by simp (disch := first | omega | (simp only [List.length_append, List.length_cons, List.length_nil, List.length_set, List.length_map, List.length_take, List.length_drop, List.length_range, List.length_replicate, List.length_reverse]; omega)) only [go_sem, Nat.reduceBEq, Nat.reduceAdd, Nat.reduceSub, Nat.reduceMul, Nat.reduceLT, Nat.reduceLeDiff, Nat.reduceEqDiff, Int.reduceAdd, Int.reduceSub, Int.reduceMul, Int.reduceNeg, Int.reduceLT, Int.reduceLE, Int.reduceEq, Int.reduceToNat, UInt8.reduceOfNat, reduceCtorEq]) rfl rfl ?_)
        simp (disch := first | omega | (simp only [List.length_append, List.length_cons, List.length_nil, List.length_set, List.length_map, List.length_take, List.length_drop, List.length_range, List.length_replicate, List.length_reverse]; omega)) only [go_sem, Nat.reduceBEq, Nat.reduceAdd, Nat.reduceSub, Nat.reduceMul, Nat.reduceLT, Nat.reduceLeDiff, Nat.reduceEqDiff, Int.reduceAdd, Int.reduceSub, Int.reduceMul, Int.reduceNeg, Int.reduceLT, Int.reduceLE, Int.reduceEq, Int.reduceToNat, UInt8.reduceOfNat, reduceCtorEq]
        refine gcyes_of (callT_ro (by simp (disch := first | omega | (simp only [List.length_append, List.length_cons, List.length_nil, List.length_set, List.length_map, List.length_take, List.length_drop, List.length_range, List.length_replicate, List.length_reverse]; omega)) only [go_sem, Nat.reduceBEq, Nat.reduceAdd, Nat.reduceSub, Nat.reduceMul, Nat.reduceLT, Nat.reduceLeDiff, Nat.reduceEqDiff, Int.reduceAdd, Int.reduceSub, Int.reduceMul, Int.reduceNeg, Int.reduceLT, Int.reduceLE, Int.reduceEq, Int.reduceToNat, UInt8.reduceOfNat, reduceCtorEq]) ke (by simp (disch := first | omega | (simp only [List.length_append, List.length_cons, List.length_nil, List.length_set, List.length_map, List.length_take, List.length_drop, List.length_range, List.length_replicate, List.length_reverse]; omega)) only [go_sem, Nat.reduceBEq, Nat.reduceAdd, Nat.reduceSub, Nat.reduceMul, Nat.reduceLT, Nat.reduceLeDiff, Nat.reduceEqDiff, Int.reduceAdd, Int.reduceSub, Int.reduceMul, Int.reduceNeg, Int.reduceLT, Int.reduceLE, Int.reduceEq, Int.reduceToNat, UInt8.reduceOfNat, reduceCtorEq]) rfl rfl ?_)
        simp (disch := first | omega | (simp only [List.length_append, List.length_cons, List.length_nil, List.length_set, List.length_map, List.length_take, List.length_drop, List.length_range, List.length_replicate, List.length_reverse]; omega)) only [go_sem, Nat.reduceBEq, Nat.reduceAdd, Nat.reduceSub, Nat.reduceMul, Nat.reduceLT, Nat.reduceLeDiff, Nat.reduceEqDiff, Int.reduceAdd, Int.reduceSub, Int.reduceMul, Int.reduceNeg, Int.reduceLT, Int.reduceLE, Int.reduceEq, Int.reduceToNat, UInt8.reduceOfNat, reduceCtorEq]
        exact hR.wk (h' := []) (r' := .bool true) (ar' := [.undef, .undef]) rfl (.le (by simp (disch := first | omega | (simp only [List.length_append, List.length_cons, List.length_nil, List.length_set, List.length_map, List.length_take, List.length_drop, List.length_range, List.length_replicate, List.length_reverse]; omega)) only [go_sem, Nat.reduceBEq, Nat.reduceAdd, Nat.reduceSub, Nat.reduceMul, Nat.reduceLT, Nat.reduceLeDiff, Nat.reduceEqDiff, Int.reduceAdd, Int.reduceSub, Int.reduceMul, Int.reduceNeg, Int.reduceLT, Int.reduceLE, Int.reduceEq, Int.reduceToNat, UInt8.reduceOfNat, reduceCtorEq])) ⟨rfl, rfl⟩
      · have cp : cmpP a ([118] ++ v.mj ++ [46] ++ v.mi ++ [46] ++ v.pa) = -1 := by
          rw [cmpP, hp, p1]
          refine (cmpV_same (v := v) (w := ⟨v.mj, v.mi, v.pa, [], [], 0⟩) rfl rfl rfl).trans ?_
          show byWordsP v.pr [] = -1
          rw [byWordsP, if_neg hpr, if_neg hpr, if_pos rfl]
        have kp := compare_ok a ([118] ++ v.mj ++ [46] ++ v.mi ++ [46] ++ v.pa) ha (by simp; omega)
        rw [cp] at kp
        simp (disch := first | omega | (simp only [List.length_append, List.length_cons, List.length_nil, List.length_set, List.length_map, List.length_take, List.length_drop, List.length_range, List.length_replicate, List.length_reverse]; omega)) only [go_sem, Nat.reduceBEq, Nat.reduceAdd, Nat.reduceSub, Nat.reduceMul, Nat.reduceLT, Nat.reduceLeDiff, Nat.reduceEqDiff, Int.reduceAdd, Int.reduceSub, Int.reduceMul, Int.reduceNeg, Int.reduceLT, Int.reduceLE, Int.reduceEq, Int.reduceToNat, UInt8.reduceOfNat, reduceCtorEq, hpr]
        refine call_ro h1 rfl rfl ?_
        simp (disch := first | omega | (simp only [List.length_append, List.length_cons, List.length_nil, List.length_set, List.length_map, List.length_take, List.length_drop, List.length_range, List.length_replicate, List.length_reverse]; omega)) only [go_sem, Nat.reduceBEq, Nat.reduceAdd, Nat.reduceSub, Nat.reduceMul, Nat.reduceLT, Nat.reduceLeDiff, Nat.reduceEqDiff, Int.reduceAdd, Int.reduceSub, Int.reduceMul, Int.reduceNeg, Int.reduceLT, Int.reduceLE, Int.reduceEq, Int.reduceToNat, UInt8.reduceOfNat, reduceCtorEq, hpr]
        refine gcyes_of (callT_ro (by simp (disch := first | omega | (simp only [List.length_append, List.length_cons, List.length_nil, List.length_set, List.length_map, List.length_take, List.length_drop, List.length_range, List.length_replicate, List.length_reverse]; omega)) only [go_sem, Nat.reduceBEq, Nat.reduceAdd, Nat.reduceSub, Nat.reduceMul, Nat.reduceLT, Nat.reduceLeDiff, Nat.reduceEqDiff, Int.reduceAdd, Int.reduceSub, Int.reduceMul, Int.reduceNeg, Int.reduceLT, Int.reduceLE, Int.reduceEq, Int.reduceToNat, UInt8.reduceOfNat, reduceCtorEq]) kp (by simp (disch := first | omega | (simp only [List.length_append, List.length_cons, List.length_nil, List.length_set, List.length_map, List.length_take, List.length_drop, List.length_range, List.length_replicate, List.length_reverse]; omega)) only [go_sem, Nat.reduceBEq, Nat.reduceAdd, Nat.reduceSub, Nat.reduceMul, Nat.reduceLT, Nat.reduceLeDiff, Nat.reduceEqDiff, Int.reduceAdd, Int.reduceSub, Int.reduceMul, Int.reduceNeg, Int.reduceLT, Int.reduceLE, Int.reduceEq, Int.reduceToNat, UInt8.reduceOfNat, reduceCtorEq]) rfl rfl ?_)
        simp (disch := first | omega | (simp only [List.length_append, List.length_cons, List.length_nil, List.length_set, List.length_map, List.length_take, List.length_drop, List.length_range, List.length_replicate, List.length_reverse]; omega)) only [go_sem, Nat.reduceBEq, Nat.reduceAdd, Nat.reduceSub, Nat.reduceMul, Nat.reduceLT, Nat.reduceLeDiff, Nat.reduceEqDiff, Int.reduceAdd, Int.reduceSub, Int.reduceMul, Int.reduceNeg, Int.reduceLT, Int.reduceLE, Int.reduceEq, Int.reduceToNat, UInt8.reduceOfNat, reduceCtorEq, hpr]
        refine gcyes_of (callT_ro (by simp (disch := first | omega | (simp only [List.length_append, List.length_cons, List.length_nil, List.length_set, List.length_map, List.length_take, List.length_drop, List.length_range, List.length_replicate, List.length_reverse]; omega)) only [go_sem, Nat.reduceBEq, Nat.reduceAdd, Nat.reduceSub, Nat.reduceMul, Nat.reduceLT, Nat.reduceLeDiff, Nat.reduceEqDiff, Int.reduceAdd, Int.reduceSub, Int.reduceMul, Int.reduceNeg, Int.reduceLT, Int.reduceLE, Int.reduceEq, Int.reduceToNat, UInt8.reduceOfNat, reduceCtorEq]) k9 (by simp (disch := first | omega | (simp only [List.length_append, List.length_cons, List.length_nil, List.length_set, List.length_map, List.length_take, List.length_drop, List.length_range, List.length_replicate, List.length_reverse]; omega)) only [go_sem, Nat.reduceBEq, Nat.reduceAdd, Nat.reduceSub, Nat.reduceMul, Nat.reduceLT, Nat.reduceLeDiff, Nat.reduceEqDiff, Int.reduceAdd, Int.reduceSub, Int.reduceMul, Int.reduceNeg, Int.reduceLT, Int.reduceLE, Int.reduceEq, Int.reduceToNat, UInt8.reduceOfNat, reduceCtorEq]) rfl rfl ?_)
        simp (disch := first | omega | (simp only [List.length_append, List.length_cons, List.length_nil, List.length_set, List.length_map, List.length_take, List.length_drop, List.length_range, List.length_replicate, List.length_reverse]; omega)) only [go_sem, Nat.reduceBEq, Nat.reduceAdd, Nat.reduceSub, Nat.reduceMul, Nat.reduceLT, Nat.reduceLeDiff, Nat.reduceEqDiff, Int.reduceAdd, Int.reduceSub, Int.reduceMul, Int.reduceNeg, Int.reduceLT, Int.reduceLE, Int.reduceEq, Int.reduceToNat, UInt8.reduceOfNat, reduceCtorEq, hpr]
        refine call_ro h2 rfl rfl ?_
        simp (disch := first | omega | (simp only [List.length_append, List.length_cons, List.length_nil, List.length_set, List.length_map, List.length_take, List.length_drop, List.length_range, List.length_replicate, List.length_reverse]; omega)) only [go_sem, Nat.reduceBEq, Nat.reduceAdd, Nat.reduceSub, Nat.reduceMul, Nat.reduceLT, Nat.reduceLeDiff, Nat.reduceEqDiff, Int.reduceAdd, Int.reduceSub, Int.reduceMul, Int.reduceNeg, Int.reduceLT, Int.reduceLE, Int.reduceEq, Int.reduceToNat, UInt8.reduceOfNat, reduceCtorEq]
        refine call_ro kt rfl rfl ?_
        simp (disch := first | omega | (simp only [List.length_append, List.length_cons, List.length_nil, List.length_set, List.length_map, List.length_take, List.length_drop, List.length_range, List.length_replicate, List.length_reverse]; omega)) only [go_sem, Nat.reduceBEq, Nat.reduceAdd, Nat.reduceSub, Nat.reduceMul, Nat.reduceLT, Nat.reduceLeDiff, Nat.reduceEqDiff, Int.reduceAdd, Int.reduceSub, Int.reduceMul, Int.reduceNeg, Int.reduceLT, Int.reduceLE, Int.reduceEq, Int.reduceToNat, UInt8.reduceOfNat, reduceCtorEq]
        refine call_ro awake_ok rfl rfl ?_
        simp (disch := first | omega | (simp only [List.length_append, List.length_cons, List.length_nil, List.length_set, List.length_map, List.length_take, List.length_drop, List.length_range, List.length_replicate, List.length_reverse]; omega)) only [go_sem, Nat.reduceBEq, Nat.reduceAdd, Nat.reduceSub, Nat.reduceMul, Nat.reduceLT, Nat.reduceLeDiff, Nat.reduceEqDiff, Int.reduceAdd, Int.reduceSub, Int.reduceMul, Int.reduceNeg, Int.reduceLT, Int.reduceLE, Int.reduceEq, Int.reduceToNat, UInt8.reduceOfNat, reduceCtorEq]
        refine gcyes_of (callT_ro (by simp (disch := first | omega | (simp only [List.length_append, List.length_cons, List.length_nil, List.length_set, List.length_map, List.length_take, List.length_drop, List.length_range, List.length_replicate, List.length_reverse]; omega)) only [go_sem, Nat.reduceBEq, Nat.reduceAdd, Nat.reduceSub, Nat.reduceMul, Nat.reduceLT, Nat.reduceLeDiff, Nat.reduceEqDiff, Int.reduceAdd, Int.reduceSub, Int.reduceMul, Int.reduceNeg, Int.reduceLT, Int.reduceLE, Int.reduceEq, Int.reduceToNat, UInt8.reduceOfNat, reduceCtorEq]) kc (by simp (disch := first | omega | (simp only [List.length_append, List.length_cons, List.length_nil, List.length_set, List.length_map, List.length_take, List.length_drop, List.length_range, List.length_replicate, List.length_reverse]; omega)) only [go_sem, Nat.reduceBEq, Nat.reduceAdd, Nat.reduceSub, Nat.reduceMul, Nat.reduceLT, Nat.reduceLeDiff, Nat.reduceEqDiff, Int.reduceAdd, Int.reduceSub, Int.reduceMul, Int.reduceNeg, Int.reduceLT, Int.reduceLE, Int.reduceEq, Int.reduceToNat, UInt8.reduceOfNat, reduceCtorEq]) rfl rfl ?_)
        simp (disch := first | omega | (simp only [List.length_append, List.length_cons, List.length_nil, List.length_set, List.length_map, List.length_take, List.length_drop, List.length_range, List.length_replicate, List.length_reverse]; omega)) only [go_sem, Nat.reduceBEq, Nat.reduceAdd, Nat.reduceSub, Nat.reduceMul, Nat.reduceLT, Nat.reduceLeDiff, Nat.reduceEqDiff, Int.reduceAdd, Int.reduceSub, Int.reduceMul, Int.reduceNeg, Int.reduceLT, Int.reduceLE, Int.reduceEq, Int.reduceToNat, UInt8.reduceOfNat, reduceCtorEq]
        refine gcyes_of (callT_ro (by simp (disch := first | omega | (simp only [List.length_append, List.length_cons, List.length_nil, List.length_set, List.length_map, List.length_take, List.length_drop, List.length_range, List.length_replicate, List.length_reverse]; omega)) only [go_sem, Nat.reduceBEq, Nat.reduceAdd, Nat.reduceSub, Nat.reduceMul, Nat.reduceLT, Nat.reduceLeDiff, Nat.reduceEqDiff, Int.reduceAdd, Int.reduceSub, Int.reduceMul, Int.reduceNeg, Int.reduceLT, Int.reduceLE, Int.reduceEq, Int.reduceToNat, UInt8.reduceOfNat, reduceCtorEq]) ke (by simp (disch := first | omega | (simp only [List.length_append, List.length_cons, List.length_nil, List.length_set, List.length_map, List.length_take, List.length_drop, List.length_range, List.length_replicate, List.length_reverse]; omega)) only [go_sem, Nat.reduceBEq, Nat.reduceAdd, Nat.reduceSub, Nat.reduceMul, Nat.reduceLT, Nat.reduceLeDiff, Nat.reduceEqDiff, Int.reduceAdd, Int.reduceSub, Int.reduceMul, Int.reduceNeg, Int.reduceLT, Int.reduceLE, Int.reduceEq, Int.reduceToNat, UInt8.reduceOfNat, reduceCtorEq]) rfl rfl ?_)
        simp (disch := first | omega | (simp only [List.length_append, List.length_cons, List.length_nil, List.length_set, List.length_map, List.length_take, List.length_drop, List.length_range, List.length_replicate, List.length_reverse]; omega)) only [go_sem, Nat.reduceBEq, Nat.reduceAdd, Nat.reduceSub, Nat.reduceMul, Nat.reduceLT, Nat.reduceLeDiff, Nat.reduceEqDiff, Int.reduceAdd, Int.reduceSub, Int.reduceMul, Int.reduceNeg, Int.reduceLT, Int.reduceLE, Int.reduceEq, Int.reduceToNat, UInt8.reduceOfNat, reduceCtorEq]
        exact hR.wk (h' := []) (r' := .bool true) (ar' := [.undef, .undef]) rfl (.le (by simp (disch := first | omega | (simp only [List.length_append, List.length_cons, List.length_nil, List.length_set, List.length_map, List.length_take, List.length_drop, List.length_range, List.length_replicate, List.length_reverse]; omega)) only [go_sem, Nat.reduceBEq, Nat.reduceAdd, Nat.reduceSub, Nat.reduceMul, Nat.reduceLT, Nat.reduceLeDiff, Nat.reduceEqDiff, Int.reduceAdd, Int.reduceSub, Int.reduceMul, Int.reduceNeg, Int.reduceLT, Int.reduceLE, Int.reduceEq, Int.reduceToNat, UInt8.reduceOfNat, reduceCtorEq])) ⟨rfl, rfl⟩
end Go.Proofs.YtjjhicejabggdaaDoor.Sv
