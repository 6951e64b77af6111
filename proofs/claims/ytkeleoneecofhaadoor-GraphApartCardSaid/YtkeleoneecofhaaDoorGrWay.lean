/- Way: the walk, and small whole numbers as floats. -/
import Derived.Test.YtkeleoneecofhaaDoorGrLaw
import Derived.Test.YtkeleoneecofhaaDoorGrFar
set_option linter.all false
namespace Go.Proofs.YtkeleoneecofhaaDoor.Gr
open Eng
set_option maxRecDepth 10000
theorem far_ok (dx dy : Int) (hx : -40 ≤ dx ∧ dx ≤ 40) (hy : -200 ≤ dy ∧ dy ≤ 200) : SpecR Tryd.prog 23 [.cx .f64 (FloatKind.f64.nearest dx) (FloatKind.f64.nearest dy)] (.bool (decide (0 < dx.natAbs + dy.natAbs))) := by
  refine Cod.far_spec (fun E R hN hR => ?_)
  have m1 := f_mul (d := dx) (by omega)
  have m2 := f_mul hy
  obtain ⟨a1, a2⟩ := f_far (p := dx.natAbs) (q := dy.natAbs) (by omega) (by omega)
  simp (disch := first | omega | (simp only [List.length_append, List.length_cons, List.length_nil, List.length_set, List.length_map, List.length_take, List.length_drop, List.length_range, List.length_replicate, List.length_reverse]; omega)) only [go_sem, Nat.reduceBEq, Nat.reduceAdd, Nat.reduceSub, Nat.reduceMul, Nat.reduceLT, Nat.reduceLeDiff, Nat.reduceEqDiff, Int.reduceAdd, Int.reduceSub, Int.reduceMul, Int.reduceNeg, Int.reduceLT, Int.reduceLE, Int.reduceEq, Int.reduceToNat, UInt8.reduceOfNat, reduceCtorEq, m1, m2, a1, a2]
  exact hR.ro ⟨rfl, rfl⟩
/- THE LINE -/
def wstep (u v a b : Int) : Int × Int := if b = v then (if u < a then (a - 1, b) else (a + 1, b)) else (a, b + 1)
def wayGo (u v : Int) : Nat → Int → Int → List (Int × Int)
  | 0, _, _ => []
  | n + 1, a, b => wstep u v a b :: wayGo u v n (wstep u v a b).1 (wstep u v a b).2
def wayN (u v a b : Int) : Nat := (v - b).toNat + (u - a).natAbs
def wayP (u v a b : Int) : List (Int × Int) := wayGo u v (wayN u v a b) a b
theorem wayN_step {u v a b : Int} (hb : b ≤ v) (h : 0 < wayN u v a b) : wayN u v (wstep u v a b).1 (wstep u v a b).2 + 1 = wayN u v a b ∧ (wstep u v a b).2 ≤ v := by
  unfold wayN wstep at *
  split
  · split <;> (constructor <;> simp only <;> omega)
  · constructor <;> simp only <;> omega
theorem way_ok (x y u v : Int) (hx : 0 ≤ x ∧ x ≤ 40) (hu : 0 ≤ u ∧ u ≤ 40) (hy : 0 ≤ y) (hv : v ≤ 200) (hyv : y ≤ v) : SpecR Tryd.prog 16 [.cx .f64 (FloatKind.f64.nearest x) (FloatKind.f64.nearest y), .cx .f64 (FloatKind.f64.nearest u) (FloatKind.f64.nearest v)]
    (.ro 1 ((wayP u v x y).map cpx)) := by
  refine Cod.way_spec (fun E R hN hR => ?_)
  simp (disch := first | omega | (simp only [List.length_append, List.length_cons, List.length_nil, List.length_set, List.length_map, List.length_take, List.length_drop, List.length_range, List.length_replicate, List.length_reverse]; omega)) only [go_sem, Nat.reduceBEq, Nat.reduceAdd, Nat.reduceSub, Nat.reduceMul, Nat.reduceLT, Nat.reduceLeDiff, Nat.reduceEqDiff, Int.reduceAdd, Int.reduceSub, Int.reduceMul, Int.reduceNeg, Int.reduceLT, Int.reduceLE, Int.reduceEq, Int.reduceToNat, UInt8.reduceOfNat, reduceCtorEq]
  refine vcW_loop hN (fun z : Int × Int × Nat × Nat × List (Int × Int) => ⟨[(1, .cx .f64 (FloatKind.f64.nearest u) (FloatKind.f64.nearest v)), (5, .sl 15034 0 z.2.2.2.2.length), (6, .cx .f64 z.2.2.1 z.2.2.2.1), (7, .cx .f64 (FloatKind.f64.nearest z.1) (FloatKind.f64.nearest z.2.1))], [(15034, .arr 1 (z.2.2.2.2.map cpx))]⟩)
    (fun z => 0 ≤ z.1 ∧ z.1 ≤ 40 ∧ 0 ≤ z.2.1 ∧ z.2.1 ≤ v ∧ (z.2.1 ≠ v → z.2.2.1 = 0 ∧ z.2.2.2.1 = 4607182418800017408) ∧ z.2.2.2.2.length + wayN u v z.1 z.2.1 ≤ 240 ∧ z.2.2.2.2 ++ wayP u v z.1 z.2.1 = wayP u v x y)
    (fun z => wayN u v z.1 z.2.1) (x, y, 0, 4607182418800017408, []) (.nil 5 15034 1 rfl (.le (by simp (disch := first | omega | (simp only [List.length_append, List.length_cons, List.length_nil, List.length_set, List.length_map, List.length_take, List.length_drop, List.length_range, List.length_replicate, List.length_reverse]; omega)) only [go_sem, Nat.reduceBEq, Nat.reduceAdd, Nat.reduceSub, Nat.reduceMul, Nat.reduceLT, Nat.reduceLeDiff, Nat.reduceEqDiff, Int.reduceAdd, Int.reduceSub, Int.reduceMul, Int.reduceNeg, Int.reduceLT, Int.reduceLE, Int.reduceEq, Int.reduceToNat, UInt8.reduceOfNat, reduceCtorEq]))) ⟨hx.1, hx.2, hy, hyv, fun _ => ⟨rfl, rfl⟩, by simp only [wayN, List.length_nil]; omega, rfl⟩ ?_
  rintro ⟨a, b, s1, s2, out⟩ R1 ⟨ha0, ha1, hb0, hb1, hst, hlen, hout⟩ hR1
  simp only at ha0 ha1 hb0 hb1 hst hlen hout
  have e1 := f_sub (a := a) (b := u) ⟨ha0, by omega⟩ ⟨hu.1, by omega⟩
  have e2 := f_sub (a := b) (b := v) ⟨hb0, by omega⟩ ⟨by omega, hv⟩
  have e3 := f_eqb (a := b) (b := v) ⟨hb0, by omega⟩ ⟨by omega, hv⟩
  have e4 := f_ltb (a := u) (b := a) ⟨hu.1, by omega⟩ ⟨ha0, by omega⟩
  obtain ⟨a1, a2, a3⟩ := f_add (a := a) ⟨ha0, by omega⟩
  obtain ⟨b1, b2, b3⟩ := f_add (a := b) ⟨hb0, by omega⟩
  simp (disch := first | omega | (simp only [List.length_append, List.length_cons, List.length_nil, List.length_set, List.length_map, List.length_take, List.length_drop, List.length_range, List.length_replicate, List.length_reverse]; omega)) only [go_sem, Nat.reduceBEq, Nat.reduceAdd, Nat.reduceSub, Nat.reduceMul, Nat.reduceLT, Nat.reduceLeDiff, Nat.reduceEqDiff, Int.reduceAdd, Int.reduceSub, Int.reduceMul, Int.reduceNeg, Int.reduceLT, Int.reduceLE, Int.reduceEq, Int.reduceToNat, UInt8.reduceOfNat, reduceCtorEq, e1, e2]
  refine call_ro (far_ok (a - u) (b - v) (by omega) (by omega)) rfl rfl ?_
  by_cases hn : 0 < wayN u v a b
  · have hfar : decide (0 < (a - u).natAbs + (b - v).natAbs) = true := by simp only [wayN] at hn; simp; omega
    obtain ⟨hs1, hs2⟩ := wayN_step hb1 hn
    have hgo : wayP u v a b = wstep u v a b :: wayP u v (wstep u v a b).1 (wstep u v a b).2 := by
      rw [wayP, ← hs1, wayGo]; rfl
    rw [hgo] at hout
    by_cases hbv : b = v
    · by_cases hua : u < a
      · have hw : wstep u v a b = (a - 1, b) := by rw [wstep, if_pos hbv, if_pos hua]
        rw [hw] at hs1 hs2 hout
        simp only at hs1 hs2 hout
        simp (disch := first | omega | (simp only [List.length_append, List.length_cons, List.length_nil, List.length_set, List.length_map, List.length_take, List.length_drop, List.length_range, List.length_replicate, List.length_reverse]; omega)) only [go_sem, Nat.reduceBEq, Nat.reduceAdd, Nat.reduceSub, Nat.reduceMul, Nat.reduceLT, Nat.reduceLeDiff, Nat.reduceEqDiff, Int.reduceAdd, Int.reduceSub, Int.reduceMul, Int.reduceNeg, Int.reduceLT, Int.reduceLE, Int.reduceEq, Int.reduceToNat, UInt8.reduceOfNat, reduceCtorEq, hfar, Cod.way_jn, e3, e4]
        refine vcW_mid hN ?_
        simp (disch := first | omega | (simp only [List.length_append, List.length_cons, List.length_nil, List.length_set, List.length_map, List.length_take, List.length_drop, List.length_range, List.length_replicate, List.length_reverse]; omega)) only [go_sem, Nat.reduceBEq, Nat.reduceAdd, Nat.reduceSub, Nat.reduceMul, Nat.reduceLT, Nat.reduceLeDiff, Nat.reduceEqDiff, Int.reduceAdd, Int.reduceSub, Int.reduceMul, Int.reduceNeg, Int.reduceLT, Int.reduceLE, Int.reduceEq, Int.reduceToNat, UInt8.reduceOfNat, reduceCtorEq, a3, b2, cpx_app, cells_cpx]
        exact hR1 (a - 1, b, 13830554455654793216, 0, out ++ [(a - 1, b)]) _ (by simp only; omega) ⟨by simp only; omega, by simp only; omega, hb0, hb1, fun h => absurd hbv h, by simp only [List.length_append, List.length_cons, List.length_nil]; omega, by simpa using hout⟩ (.le (by simp (disch := first | omega | (simp only [List.length_append, List.length_cons, List.length_nil, List.length_set, List.length_map, List.length_take, List.length_drop, List.length_range, List.length_replicate, List.length_reverse]; omega)) only [go_sem, Nat.reduceBEq, Nat.reduceAdd, Nat.reduceSub, Nat.reduceMul, Nat.reduceLT, Nat.reduceLeDiff, Nat.reduceEqDiff, Int.reduceAdd, Int.reduceSub, Int.reduceMul, Int.reduceNeg, Int.reduceLT, Int.reduceLE, Int.reduceEq, Int.reduceToNat, UInt8.reduceOfNat, reduceCtorEq]))
      · have hw : wstep u v a b = (a + 1, b) := by rw [wstep, if_pos hbv, if_neg hua]
        have hau : a < u := by simp only [wayN] at hn; omega
        rw [hw] at hs1 hs2 hout
        simp only at hs1 hs2 hout
        simp (disch := first | omega | (simp only [List.length_append, List.length_cons, List.length_nil, List.length_set, List.length_map, List.length_take, List.length_drop, List.length_range, List.length_replicate, List.length_reverse]; omega)) only [go_sem, Nat.reduceBEq, Nat.reduceAdd, Nat.reduceSub, Nat.reduceMul, Nat.reduceLT, Nat.reduceLeDiff, Nat.reduceEqDiff, Int.reduceAdd, Int.reduceSub, Int.reduceMul, Int.reduceNeg, Int.reduceLT, Int.reduceLE, Int.reduceEq, Int.reduceToNat, UInt8.reduceOfNat, reduceCtorEq, hfar, Cod.way_jn, e3, e4]
        refine vcW_mid hN ?_
        simp (disch := first | omega | (simp only [List.length_append, List.length_cons, List.length_nil, List.length_set, List.length_map, List.length_take, List.length_drop, List.length_range, List.length_replicate, List.length_reverse]; omega)) only [go_sem, Nat.reduceBEq, Nat.reduceAdd, Nat.reduceSub, Nat.reduceMul, Nat.reduceLT, Nat.reduceLeDiff, Nat.reduceEqDiff, Int.reduceAdd, Int.reduceSub, Int.reduceMul, Int.reduceNeg, Int.reduceLT, Int.reduceLE, Int.reduceEq, Int.reduceToNat, UInt8.reduceOfNat, reduceCtorEq, a1, b2, cpx_app, cells_cpx]
        exact hR1 (a + 1, b, 4607182418800017408, 0, out ++ [(a + 1, b)]) _ (by simp only; omega) ⟨by simp only; omega, by simp only; omega, hb0, hb1, fun h => absurd hbv h, by simp only [List.length_append, List.length_cons, List.length_nil]; omega, by simpa using hout⟩ (.le (by simp (disch := first | omega | (simp only [List.length_append, List.length_cons, List.length_nil, List.length_set, List.length_map, List.length_take, List.length_drop, List.length_range, List.length_replicate, List.length_reverse]; omega)) only [go_sem, Nat.reduceBEq, Nat.reduceAdd, Nat.reduceSub, Nat.reduceMul, Nat.reduceLT, Nat.reduceLeDiff, Nat.reduceEqDiff, Int.reduceAdd, Int.reduceSub, Int.reduceMul, Int.reduceNeg, Int.reduceLT, Int.reduceLE, Int.reduceEq, Int.reduceToNat, UInt8.reduceOfNat, reduceCtorEq]))
    · have hw : wstep u v a b = (a, b + 1) := by rw [wstep, if_neg hbv]
      obtain ⟨rfl, rfl⟩ := hst hbv
      rw [hw] at hs1 hs2 hout
      simp only at hs1 hs2 hout
      simp (disch := first | omega | (simp only [List.length_append, List.length_cons, List.length_nil, List.length_set, List.length_map, List.length_take, List.length_drop, List.length_range, List.length_replicate, List.length_reverse]; omega)) only [go_sem, Nat.reduceBEq, Nat.reduceAdd, Nat.reduceSub, Nat.reduceMul, Nat.reduceLT, Nat.reduceLeDiff, Nat.reduceEqDiff, Int.reduceAdd, Int.reduceSub, Int.reduceMul, Int.reduceNeg, Int.reduceLT, Int.reduceLE, Int.reduceEq, Int.reduceToNat, UInt8.reduceOfNat, reduceCtorEq, hfar, Cod.way_jn, e3, e4]
      refine vcW_mid hN ?_
      simp (disch := first | omega | (simp only [List.length_append, List.length_cons, List.length_nil, List.length_set, List.length_map, List.length_take, List.length_drop, List.length_range, List.length_replicate, List.length_reverse]; omega)) only [go_sem, Nat.reduceBEq, Nat.reduceAdd, Nat.reduceSub, Nat.reduceMul, Nat.reduceLT, Nat.reduceLeDiff, Nat.reduceEqDiff, Int.reduceAdd, Int.reduceSub, Int.reduceMul, Int.reduceNeg, Int.reduceLT, Int.reduceLE, Int.reduceEq, Int.reduceToNat, UInt8.reduceOfNat, reduceCtorEq, a2, b1, cpx_app, cells_cpx]
      exact hR1 (a, b + 1, 0, 4607182418800017408, out ++ [(a, b + 1)]) _ (by simp only; omega) ⟨ha0, ha1, by simp only; omega, hs2, fun _ => ⟨rfl, rfl⟩, by simp only [List.length_append, List.length_cons, List.length_nil]; omega, by simpa using hout⟩ (.le (by simp (disch := first | omega | (simp only [List.length_append, List.length_cons, List.length_nil, List.length_set, List.length_map, List.length_take, List.length_drop, List.length_range, List.length_replicate, List.length_reverse]; omega)) only [go_sem, Nat.reduceBEq, Nat.reduceAdd, Nat.reduceSub, Nat.reduceMul, Nat.reduceLT, Nat.reduceLeDiff, Nat.reduceEqDiff, Int.reduceAdd, Int.reduceSub, Int.reduceMul, Int.reduceNeg, Int.reduceLT, Int.reduceLE, Int.reduceEq, Int.reduceToNat, UInt8.reduceOfNat, reduceCtorEq]))
  · have hfar : decide (0 < (a - u).natAbs + (b - v).natAbs) = false := by simp only [wayN] at hn; simp; omega
    have hz : wayN u v a b = 0 := by omega
    rw [wayP, hz, wayGo, List.append_nil] at hout
    simp (disch := first | omega | (simp only [List.length_append, List.length_cons, List.length_nil, List.length_set, List.length_map, List.length_take, List.length_drop, List.length_range, List.length_replicate, List.length_reverse]; omega)) only [go_sem, Nat.reduceBEq, Nat.reduceAdd, Nat.reduceSub, Nat.reduceMul, Nat.reduceLT, Nat.reduceLeDiff, Nat.reduceEqDiff, Int.reduceAdd, Int.reduceSub, Int.reduceMul, Int.reduceNeg, Int.reduceLT, Int.reduceLE, Int.reduceEq, Int.reduceToNat, UInt8.reduceOfNat, reduceCtorEq, hfar]
    (repeat (first | (with_reducible refine gskip_of ?_) | (with_reducible refine gcskip_of ?_) | (with_reducible refine gopen_of ?_)) <;> simp (disch := first | omega | (simp only [List.length_append, List.length_cons, List.length_nil, List.length_set, List.length_map, List.length_take, List.length_drop, List.length_range, List.length_replicate, List.length_reverse]; omega)) only [go_sem, Nat.reduceBEq, Nat.reduceAdd, Nat.reduceSub, Nat.reduceMul, Nat.reduceLT, Nat.reduceLeDiff, Nat.reduceEqDiff, Int.reduceAdd, Int.reduceSub, Int.reduceMul, Int.reduceNeg, Int.reduceLT, Int.reduceLE, Int.reduceEq, Int.reduceToNat, UInt8.reduceOfNat, reduceCtorEq])
    exact hR.wk (h' := []) (r' := .ro 1 (out.map cpx)) (ar' := [.undef, .undef]) rfl (.frz 15034 (.le (by simp (disch := first | omega | (simp only [List.length_append, List.length_cons, List.length_nil, List.length_set, List.length_map, List.length_take, List.length_drop, List.length_range, List.length_replicate, List.length_reverse]; omega)) only [go_sem, Nat.reduceBEq, Nat.reduceAdd, Nat.reduceSub, Nat.reduceMul, Nat.reduceLT, Nat.reduceLeDiff, Nat.reduceEqDiff, Int.reduceAdd, Int.reduceSub, Int.reduceMul, Int.reduceNeg, Int.reduceLT, Int.reduceLE, Int.reduceEq, Int.reduceToNat, UInt8.reduceOfNat, reduceCtorEq]))) ⟨rfl, by rw [hout]⟩
end Go.Proofs.YtkeleoneecofhaaDoor.Gr
