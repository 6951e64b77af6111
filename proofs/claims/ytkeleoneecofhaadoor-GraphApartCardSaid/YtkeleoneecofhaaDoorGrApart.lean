/- GraphApart: the law. -/
import Derived.Test.YtkeleoneecofhaaDoorGrWays
import Derived.Test.YtkeleoneecofhaaDoorGrBusy
set_option linter.all false
namespace Go.Proofs.YtkeleoneecofhaaDoor.Gr
open Eng
set_option maxRecDepth 10000
theorem wayP_last (u v : Int) : ∀ (n : Nat) (a b : Int), b ≤ v → wayN u v a b = n + 1 → (wayP u v a b).getD n default = (u, v)
  | 0, a, b, hb, hn => by
    have hpos : 0 < wayN u v a b := by omega
    obtain ⟨h1, h2⟩ := wayN_step hb hpos
    rw [wayP_cons hb hpos, List.getD_cons_zero]
    have h3 : wayN u v (wstep u v a b).1 (wstep u v a b).2 = 0 := by omega
    unfold wayN at h3
    ext
    · show (wstep u v a b).1 = u
      omega
    · show (wstep u v a b).2 = v
      omega
  | n + 1, a, b, hb, hn => by
    have hpos : 0 < wayN u v a b := by omega
    obtain ⟨h1, h2⟩ := wayN_step hb hpos
    rw [wayP_cons hb hpos, List.getD_cons_succ]
    exact wayP_last u v n _ _ h2 (by omega)
theorem placesP_check {ps : List (List Int)} (h : (placesP ps).2.2 = 0) : checkP ps = 0 ∧ ps.length ≤ 200 := by
  have hc : checkP ps = 0 := by
    unfold placesP at h
    split at h
    · rename_i hc; exact hc
    · exact h
  refine ⟨hc, ?_⟩
  unfold checkP at hc
  split at hc
  · omega
  · omega
set_option maxHeartbeats 1000000 in
theorem graphApart_ok (ps : List (List Int)) (h1 : ps.length ≤ 9223372036854775807) (h2 : ∀ r ∈ ps, r.length ≤ 9223372036854775807) : SpecR Tryd.prog 6 [.ro 1 (rowsA ps)] (.bool true) := by
  refine Cod.lapart_spec (fun E R hN hR => ?_)
  have hfew := few_ok ps h1 h2
  obtain ⟨l1, l2⟩ := fewP_len ps
  obtain ⟨fs, hfs⟩ : ∃ fs, fs = fewP ps := ⟨_, rfl⟩
  rw [← hfs] at hfew l1 l2
  have l1' : fs.length ≤ 1000 := by omega
  have l2' : ∀ r ∈ fs, r.length ≤ 1000 := fun r hr => by have := l2 r hr; omega
  simp (disch := first | omega | (simp only [List.length_append, List.length_cons, List.length_nil, List.length_set, List.length_map, List.length_take, List.length_drop, List.length_range, List.length_replicate, List.length_reverse]; omega)) only [go_sem, Nat.reduceBEq, Nat.reduceAdd, Nat.reduceSub, Nat.reduceMul, Nat.reduceLT, Nat.reduceLeDiff, Nat.reduceEqDiff, Int.reduceAdd, Int.reduceSub, Int.reduceMul, Int.reduceNeg, Int.reduceLT, Int.reduceLE, Int.reduceEq, Int.reduceToNat, UInt8.reduceOfNat, reduceCtorEq]
  refine call_ro hfew rfl rfl ?_
  simp (disch := first | omega | (simp only [List.length_append, List.length_cons, List.length_nil, List.length_set, List.length_map, List.length_take, List.length_drop, List.length_range, List.length_replicate, List.length_reverse]; omega)) only [go_sem, Nat.reduceBEq, Nat.reduceAdd, Nat.reduceSub, Nat.reduceMul, Nat.reduceLT, Nat.reduceLeDiff, Nat.reduceEqDiff, Int.reduceAdd, Int.reduceSub, Int.reduceMul, Int.reduceNeg, Int.reduceLT, Int.reduceLE, Int.reduceEq, Int.reduceToNat, UInt8.reduceOfNat, reduceCtorEq]
  refine call_ro (gplaces_ok fs l1' l2') rfl rfl ?_
  rcases placesP_facts fs with ⟨e0, la, lr, ha, hr⟩ | ⟨e0, ea, er⟩
  rotate_left
  · simp (disch := first | omega | (simp only [List.length_append, List.length_cons, List.length_nil, List.length_set, List.length_map, List.length_take, List.length_drop, List.length_range, List.length_replicate, List.length_reverse]; omega)) only [go_sem, Nat.reduceBEq, Nat.reduceAdd, Nat.reduceSub, Nat.reduceMul, Nat.reduceLT, Nat.reduceLeDiff, Nat.reduceEqDiff, Int.reduceAdd, Int.reduceSub, Int.reduceMul, Int.reduceNeg, Int.reduceLT, Int.reduceLE, Int.reduceEq, Int.reduceToNat, UInt8.reduceOfNat, reduceCtorEq, ea, er]
    refine call_ro awake_ok rfl rfl ?_
    simp (disch := first | omega | (simp only [List.length_append, List.length_cons, List.length_nil, List.length_set, List.length_map, List.length_take, List.length_drop, List.length_range, List.length_replicate, List.length_reverse]; omega)) only [go_sem, Nat.reduceBEq, Nat.reduceAdd, Nat.reduceSub, Nat.reduceMul, Nat.reduceLT, Nat.reduceLeDiff, Nat.reduceEqDiff, Int.reduceAdd, Int.reduceSub, Int.reduceMul, Int.reduceNeg, Int.reduceLT, Int.reduceLE, Int.reduceEq, Int.reduceToNat, UInt8.reduceOfNat, reduceCtorEq, ea, er]
    (repeat (first | (with_reducible refine gskip_of ?_) | (with_reducible refine gcskip_of ?_) | (with_reducible refine gopen_of ?_)) <;> simp (disch := first | omega | (simp only [List.length_append, List.length_cons, List.length_nil, List.length_set, List.length_map, List.length_take, List.length_drop, List.length_range, List.length_replicate, List.length_reverse]; omega)) only [go_sem, Nat.reduceBEq, Nat.reduceAdd, Nat.reduceSub, Nat.reduceMul, Nat.reduceLT, Nat.reduceLeDiff, Nat.reduceEqDiff, Int.reduceAdd, Int.reduceSub, Int.reduceMul, Int.reduceNeg, Int.reduceLT, Int.reduceLE, Int.reduceEq, Int.reduceToNat, UInt8.reduceOfNat, reduceCtorEq])
    exact hR.ro ⟨rfl, rfl⟩
  obtain ⟨hchk, h200⟩ := placesP_check e0
  clear hfew hfs h1 h2 hr lr
  generalize (placesP fs).1 = a at *
  generalize (placesP fs).2.1 = rs at *
  have haD : ∀ k, k < a.length → ∃ x : Int, 0 ≤ x ∧ x < 40 ∧ a.getD k default = (x, (k : Int)) := by
    intro k hk
    have hz : a[k]? = some (a.getD k default) := by rw [List.getD_eq_getElem?_getD, List.getElem?_eq_getElem hk]; rfl
    obtain ⟨g1, g2, g3⟩ := ha k _ hz
    exact ⟨(a.getD k default).1, g2, g3, Prod.ext rfl g1⟩
  clear ha
  simp (disch := first | omega | (simp only [List.length_append, List.length_cons, List.length_nil, List.length_set, List.length_map, List.length_take, List.length_drop, List.length_range, List.length_replicate, List.length_reverse]; omega)) only [go_sem, Nat.reduceBEq, Nat.reduceAdd, Nat.reduceSub, Nat.reduceMul, Nat.reduceLT, Nat.reduceLeDiff, Nat.reduceEqDiff, Int.reduceAdd, Int.reduceSub, Int.reduceMul, Int.reduceNeg, Int.reduceLT, Int.reduceLE, Int.reduceEq, Int.reduceToNat, UInt8.reduceOfNat, reduceCtorEq, e0]
  refine vcW_loop hN (fun i : Nat => ⟨[(3, .ro 1 (rowsA fs)), (4, .ro 1 (a.map cpx)), (35, .ro 1 (a.map cpx)), (36, .int .i64 a.length), (37, .int .i64 i)], []⟩) (fun i => i ≤ a.length) (fun i => a.length - i) 0 (.le (by simp (disch := first | omega | (simp only [List.length_append, List.length_cons, List.length_nil, List.length_set, List.length_map, List.length_take, List.length_drop, List.length_range, List.length_replicate, List.length_reverse]; omega)) only [go_sem, Nat.reduceBEq, Nat.reduceAdd, Nat.reduceSub, Nat.reduceMul, Nat.reduceLT, Nat.reduceLeDiff, Nat.reduceEqDiff, Int.reduceAdd, Int.reduceSub, Int.reduceMul, Int.reduceNeg, Int.reduceLT, Int.reduceLE, Int.reduceEq, Int.reduceToNat, UInt8.reduceOfNat, reduceCtorEq])) (by omega) ?_
  rintro i R1 hi hR1
  by_cases hlt : i < a.length
  · obtain ⟨x, x0, x1, hx⟩ := haD i hlt
    simp (disch := first | omega | (simp only [List.length_append, List.length_cons, List.length_nil, List.length_set, List.length_map, List.length_take, List.length_drop, List.length_range, List.length_replicate, List.length_reverse]; omega)) only [go_sem, Nat.reduceBEq, Nat.reduceAdd, Nat.reduceSub, Nat.reduceMul, Nat.reduceLT, Nat.reduceLeDiff, Nat.reduceEqDiff, Int.reduceAdd, Int.reduceSub, Int.reduceMul, Int.reduceNeg, Int.reduceLT, Int.reduceLE, Int.reduceEq, Int.reduceToNat, UInt8.reduceOfNat, reduceCtorEq, hx, cpx]
    refine vcW_loop hN (fun k : Nat => ⟨[(3, .ro 1 (rowsA fs)), (4, .ro 1 (a.map cpx)), (7, .int .i64 i), (8, .cx .f64 (FloatKind.f64.nearest x) (FloatKind.f64.nearest i)), (35, .ro 1 (a.map cpx)), (36, .int .i64 a.length), (37, .int .i64 i), (44, .ro 1 ((a.take i).map cpx)), (45, .int .i64 i), (46, .int .i64 k)], []⟩) (fun k => k ≤ i) (fun k => i - k) 0 (.le (by simp (disch := first | omega | (simp only [List.length_append, List.length_cons, List.length_nil, List.length_set, List.length_map, List.length_take, List.length_drop, List.length_range, List.length_replicate, List.length_reverse]; omega)) only [go_sem, Nat.reduceBEq, Nat.reduceAdd, Nat.reduceSub, Nat.reduceMul, Nat.reduceLT, Nat.reduceLeDiff, Nat.reduceEqDiff, Int.reduceAdd, Int.reduceSub, Int.reduceMul, Int.reduceNeg, Int.reduceLT, Int.reduceLE, Int.reduceEq, Int.reduceToNat, UInt8.reduceOfNat, reduceCtorEq])) (by omega) ?_
    rintro k R2 hk hR2
    by_cases hkl : k < i
    · obtain ⟨y, y0, y1, hy⟩ := haD k (by omega)
      have hyt : (a.take i).getD k default = (y, (k : Int)) := by rw [getD_take _ _ hkl, hy]
      have e2 := f_eqb (a := (i : Int)) (b := (k : Int)) (by omega) (by omega)
      rw [decide_eq_false (by omega)] at e2
      simp (disch := first | omega | (simp only [List.length_append, List.length_cons, List.length_nil, List.length_set, List.length_map, List.length_take, List.length_drop, List.length_range, List.length_replicate, List.length_reverse]; omega)) only [go_sem, Nat.reduceBEq, Nat.reduceAdd, Nat.reduceSub, Nat.reduceMul, Nat.reduceLT, Nat.reduceLeDiff, Nat.reduceEqDiff, Int.reduceAdd, Int.reduceSub, Int.reduceMul, Int.reduceNeg, Int.reduceLT, Int.reduceLE, Int.reduceEq, Int.reduceToNat, UInt8.reduceOfNat, reduceCtorEq, hyt, cpx, e2]
      exact hR2 (k + 1) _ (by omega) (by omega) (.le (by simp (disch := first | omega | (simp only [List.length_append, List.length_cons, List.length_nil, List.length_set, List.length_map, List.length_take, List.length_drop, List.length_range, List.length_replicate, List.length_reverse]; omega)) only [go_sem, Nat.reduceBEq, Nat.reduceAdd, Nat.reduceSub, Nat.reduceMul, Nat.reduceLT, Nat.reduceLeDiff, Nat.reduceEqDiff, Int.reduceAdd, Int.reduceSub, Int.reduceMul, Int.reduceNeg, Int.reduceLT, Int.reduceLE, Int.reduceEq, Int.reduceToNat, UInt8.reduceOfNat, reduceCtorEq]))
    · obtain rfl : k = i := by omega
      have hrl := l2 _ (getD_memD [] fs (by omega : k < fs.length))
      have hrm := checkP_mem hchk k (by omega)
      obtain ⟨r, hrr⟩ : ∃ r, r = fs.getD k [] := ⟨_, rfl⟩
      rw [← hrr] at hrl hrm
      simp (disch := first | omega | (simp only [List.length_append, List.length_cons, List.length_nil, List.length_set, List.length_map, List.length_take, List.length_drop, List.length_range, List.length_replicate, List.length_reverse]; omega)) only [go_sem, Nat.reduceBEq, Nat.reduceAdd, Nat.reduceSub, Nat.reduceMul, Nat.reduceLT, Nat.reduceLeDiff, Nat.reduceEqDiff, Int.reduceAdd, Int.reduceSub, Int.reduceMul, Int.reduceNeg, Int.reduceLT, Int.reduceLE, Int.reduceEq, Int.reduceToNat, UInt8.reduceOfNat, reduceCtorEq, ← hrr]
      refine vcW_loop hN (fun j : Nat => ⟨[(3, .ro 1 (rowsA fs)), (4, .ro 1 (a.map cpx)), (8, .cx .f64 (FloatKind.f64.nearest x) (FloatKind.f64.nearest k)), (35, .ro 1 (a.map cpx)), (36, .int .i64 a.length), (37, .int .i64 k), (57, .ro 1 (ints r)), (58, .int .i64 r.length), (59, .int .i64 j)], []⟩) (fun j => j ≤ r.length) (fun j => r.length - j) 0 (.le (by simp (disch := first | omega | (simp only [List.length_append, List.length_cons, List.length_nil, List.length_set, List.length_map, List.length_take, List.length_drop, List.length_range, List.length_replicate, List.length_reverse]; omega)) only [go_sem, Nat.reduceBEq, Nat.reduceAdd, Nat.reduceSub, Nat.reduceMul, Nat.reduceLT, Nat.reduceLeDiff, Nat.reduceEqDiff, Int.reduceAdd, Int.reduceSub, Int.reduceMul, Int.reduceNeg, Int.reduceLT, Int.reduceLE, Int.reduceEq, Int.reduceToNat, UInt8.reduceOfNat, reduceCtorEq])) (by omega) ?_
      rintro j R3 hj hR3
      by_cases hjl : j < r.length
      · have hp := hrm _ (getD_memD 0 r hjl)
        obtain ⟨m, hm⟩ := Int.eq_ofNat_of_zero_le (by omega : 0 ≤ r.getD j 0)
        rw [hm] at hp
        obtain ⟨y, y0, y1, hy⟩ := haD m (by omega)
        have hway := way_ok x k y m ⟨x0, by omega⟩ ⟨y0, by omega⟩ (by omega) (by omega) (by omega)
        obtain ⟨l, hl⟩ : ∃ l, l = wayP y m x k := ⟨_, rfl⟩
        have hll : l.length = wayN y m x k := by rw [hl, wayP_len]
        obtain ⟨n, hn⟩ : ∃ n, wayN y m x k = n + 1 := ⟨wayN y m x k - 1, by unfold wayN; omega⟩
        have hla := wayP_last y m n x k (by omega) hn
        have hnn : n ≤ 300 := by unfold wayN at hn; omega
        rw [← hl] at hway hla
        rw [hn] at hll
        have e1 := f_ltb (a := (m : Int)) (b := (k : Int)) (by omega) (by omega)
        rw [decide_eq_false (by omega)] at e1
        have e2 := f_eqb (a := (m : Int)) (b := (k : Int)) (by omega) (by omega)
        rw [decide_eq_false (by omega)] at e2
        have e3 := f_eqb (a := (m : Int)) (b := (m : Int)) (by omega) (by omega)
        rw [decide_eq_true rfl] at e3
        have e4 := f_eqb (a := y) (b := y) (by omega) (by omega)
        rw [decide_eq_true rfl] at e4
        have hidx : ((n : Int) + 1 - 1).toNat = n := by omega
        simp (disch := first | omega | (simp only [List.length_append, List.length_cons, List.length_nil, List.length_set, List.length_map, List.length_take, List.length_drop, List.length_range, List.length_replicate, List.length_reverse]; omega)) only [go_sem, Nat.reduceBEq, Nat.reduceAdd, Nat.reduceSub, Nat.reduceMul, Nat.reduceLT, Nat.reduceLeDiff, Nat.reduceEqDiff, Int.reduceAdd, Int.reduceSub, Int.reduceMul, Int.reduceNeg, Int.reduceLT, Int.reduceLE, Int.reduceEq, Int.reduceToNat, UInt8.reduceOfNat, reduceCtorEq, hm, hy, cpx]
        refine call_ro hway rfl rfl ?_
        simp (disch := first | omega | (simp only [List.length_append, List.length_cons, List.length_nil, List.length_set, List.length_map, List.length_take, List.length_drop, List.length_range, List.length_replicate, List.length_reverse]; omega)) only [go_sem, Nat.reduceBEq, Nat.reduceAdd, Nat.reduceSub, Nat.reduceMul, Nat.reduceLT, Nat.reduceLeDiff, Nat.reduceEqDiff, Int.reduceAdd, Int.reduceSub, Int.reduceMul, Int.reduceNeg, Int.reduceLT, Int.reduceLE, Int.reduceEq, Int.reduceToNat, UInt8.reduceOfNat, reduceCtorEq, hm, hy, cpx, e1, e2, e3, e4, hll, hidx, hla]
        (repeat (first | (with_reducible refine gskip_of ?_) | (with_reducible refine gcskip_of ?_) | (with_reducible refine gopen_of ?_)) <;> simp (disch := first | omega | (simp only [List.length_append, List.length_cons, List.length_nil, List.length_set, List.length_map, List.length_take, List.length_drop, List.length_range, List.length_replicate, List.length_reverse]; omega)) only [go_sem, Nat.reduceBEq, Nat.reduceAdd, Nat.reduceSub, Nat.reduceMul, Nat.reduceLT, Nat.reduceLeDiff, Nat.reduceEqDiff, Int.reduceAdd, Int.reduceSub, Int.reduceMul, Int.reduceNeg, Int.reduceLT, Int.reduceLE, Int.reduceEq, Int.reduceToNat, UInt8.reduceOfNat, reduceCtorEq, hm, hy, cpx, e1, e2, e3, e4, hll, hidx, hla])
        exact hR3 (j + 1) _ (by omega) (by omega) (.le (by simp (disch := first | omega | (simp only [List.length_append, List.length_cons, List.length_nil, List.length_set, List.length_map, List.length_take, List.length_drop, List.length_range, List.length_replicate, List.length_reverse]; omega)) only [go_sem, Nat.reduceBEq, Nat.reduceAdd, Nat.reduceSub, Nat.reduceMul, Nat.reduceLT, Nat.reduceLeDiff, Nat.reduceEqDiff, Int.reduceAdd, Int.reduceSub, Int.reduceMul, Int.reduceNeg, Int.reduceLT, Int.reduceLE, Int.reduceEq, Int.reduceToNat, UInt8.reduceOfNat, reduceCtorEq]))
      · obtain rfl : j = r.length := by omega
        simp (disch := first | omega | (simp only [List.length_append, List.length_cons, List.length_nil, List.length_set, List.length_map, List.length_take, List.length_drop, List.length_range, List.length_replicate, List.length_reverse]; omega)) only [go_sem, Nat.reduceBEq, Nat.reduceAdd, Nat.reduceSub, Nat.reduceMul, Nat.reduceLT, Nat.reduceLeDiff, Nat.reduceEqDiff, Int.reduceAdd, Int.reduceSub, Int.reduceMul, Int.reduceNeg, Int.reduceLT, Int.reduceLE, Int.reduceEq, Int.reduceToNat, UInt8.reduceOfNat, reduceCtorEq]
        exact hR1 (k + 1) _ (by omega) (by omega) (.le (by simp (disch := first | omega | (simp only [List.length_append, List.length_cons, List.length_nil, List.length_set, List.length_map, List.length_take, List.length_drop, List.length_range, List.length_replicate, List.length_reverse]; omega)) only [go_sem, Nat.reduceBEq, Nat.reduceAdd, Nat.reduceSub, Nat.reduceMul, Nat.reduceLT, Nat.reduceLeDiff, Nat.reduceEqDiff, Int.reduceAdd, Int.reduceSub, Int.reduceMul, Int.reduceNeg, Int.reduceLT, Int.reduceLE, Int.reduceEq, Int.reduceToNat, UInt8.reduceOfNat, reduceCtorEq]))
  · simp (disch := first | omega | (simp only [List.length_append, List.length_cons, List.length_nil, List.length_set, List.length_map, List.length_take, List.length_drop, List.length_range, List.length_replicate, List.length_reverse]; omega)) only [go_sem, Nat.reduceBEq, Nat.reduceAdd, Nat.reduceSub, Nat.reduceMul, Nat.reduceLT, Nat.reduceLeDiff, Nat.reduceEqDiff, Int.reduceAdd, Int.reduceSub, Int.reduceMul, Int.reduceNeg, Int.reduceLT, Int.reduceLE, Int.reduceEq, Int.reduceToNat, UInt8.reduceOfNat, reduceCtorEq]
    refine call_ro awake_ok rfl rfl ?_
    simp (disch := first | omega | (simp only [List.length_append, List.length_cons, List.length_nil, List.length_set, List.length_map, List.length_take, List.length_drop, List.length_range, List.length_replicate, List.length_reverse]; omega)) only [go_sem, Nat.reduceBEq, Nat.reduceAdd, Nat.reduceSub, Nat.reduceMul, Nat.reduceLT, Nat.reduceLeDiff, Nat.reduceEqDiff, Int.reduceAdd, Int.reduceSub, Int.reduceMul, Int.reduceNeg, Int.reduceLT, Int.reduceLE, Int.reduceEq, Int.reduceToNat, UInt8.reduceOfNat, reduceCtorEq]
    exact hR.ro ⟨rfl, rfl⟩
end Go.Proofs.YtkeleoneecofhaaDoor.Gr
