/- PseudoBetween: the law. -/
import Derived.Test.YtgkcbhdpenmogaaDoorPsBtw
set_option linter.all false
namespace Go.Proofs.YtgkcbhdpenmogaaDoor.Ps
open Eng Sv
set_option maxRecDepth 10000
theorem make_e (m o r : Bs) (t : Int) : (makeP m o t r).2 = 0 ∨ (makeP m o t r).2 = 1 ∨ (makeP m o t r).2 = 2 ∨ (makeP m o t r).2 = 4 := by
  have fin : ∀ y : Bs, (finP y).2 = 0 ∨ (finP y).2 = 1 ∨ (finP y).2 = 2 ∨ (finP y).2 = 4 := by
    intro y
    unfold finP
    split <;> simp
  unfold makeP
  split
  · simp
  · split
    · split
      · simp
      · split
        · exact fin _
        · simp
    · split
      · simp
      · exact fin _
theorem next_len (o : Bs) : (nextP o).length ≤ 1000 := by
  unfold nextP
  split
  · simp
  · split
    · simp
    · rename_i v hv
      obtain ⟨hml, a1, a2, a3, a4, a5⟩ := parseP_len hv
      have := moreN_len v.pa
      split
      · unfold headP; simp only [List.length_append, List.length_cons, List.length_nil]; omega
      · unfold headP; simp only [List.length_append, List.length_cons, List.length_nil]; omega
theorem lbetween_ok (o : Bs) (t1 t2 : Int) (r1 r2 : Bs) (ho : o.length ≤ 140737488351232) (h10 : -9223372036854775808 ≤ t1) (h11 : t1 ≤ 9223372036854775807) (h20 : -9223372036854775808 ≤ t2) (h21 : t2 ≤ 9223372036854775807) (hr1 : r1.length ≤ 140737488351232) (hr2 : r2.length ≤ 140737488351232) :
    SpecR Tryd.prog 4 [.str o, .int .i64 t1, .int .i64 t2, .str r1, .str r2] (.bool true) := by
  refine Cod.lbetween_spec (fun E R hN hR => ?_)
  have m1 := pmake_ok v0 o t1 r1 (by decide) ho hr1 h10 h11
  have m2 := pmake_ok v0 o t2 r2 (by decide) ho hr2 h20 h21
  have e1 := make_e v0 o r1 t1
  have e2 := make_e v0 o r2 t2
  have haw := lawake_ok
  unfold makeA at m1 m2
  obtain ⟨x, ex, hx⟩ : ∃ x ex, makeP v0 o t1 r1 = (x, ex) := ⟨_, _, rfl⟩
  obtain ⟨y, ey, hy⟩ : ∃ y ey, makeP v0 o t2 r2 = (y, ey) := ⟨_, _, rfl⟩
  rw [hx] at m1 e1
  rw [hy] at m2 e2
  simp only at m1 m2 e1 e2
  have hv0 : v0 = [118, 48] := rfl
  rw [hv0] at m1 m2
  simp (disch := first | omega | (simp only [Lx]; omega)) only [go_sem, simprocAttr]
  refine call_ro m1 rfl rfl ?_
  simp (disch := first | omega | (simp only [Lx]; omega)) only [go_sem, simprocAttr]
  refine call_ro m2 rfl rfl ?_
  by_cases c1 : ex = 0
  · by_cases c2 : ey = 0
    · subst c1 c2
      by_cases c3 : o.length ≤ 90
      · obtain ⟨b1, b2, b3, b4⟩ := between hx hy
        obtain ⟨a1, a2, a3, a4⟩ := make_some hx
        obtain ⟨a1', a2', a3', a4'⟩ := make_some hy
        have k1 := compare_ok x y (by omega) (by omega)
        have k2 := compare_ok o x (by omega) (by omega)
        have hnl := next_len o
        have k3 := compare_ok x (nextP o) (by omega) (by omega)
        have k4 := canonical_ok x (by omega)
        have hcl := canonP_len x
        rw [b2] at k2
        rw [b3] at k3
        have hp := rparse_ok' o (by omega)
        simp (disch := first | omega | (simp only [Lx]; omega)) only [go_sem, simprocAttr]
        (repeat (first | (with_reducible refine gskip_of ?_) | (with_reducible refine gcskip_of ?_) | (with_reducible refine gopen_of ?_)) <;> simp (disch := first | omega | (simp only [Lx]; omega)) only [go_sem, simprocAttr])
        by_cases c4 : o = []
        · have hn : nextP o = [118, 48, 46, 48, 46, 48] := by unfold nextP; rw [if_pos c4]
          rw [hn] at k3
          have po : parseP o = none := by rw [c4]; rfl
          have hmo := rmore_ok [] rfl (by decide)
          rw [show moreN [] = [49] from rfl] at hmo
          rw [po] at hp
          simp only [parseA, verA, noV, Option.getD_none, Option.isSome_none] at hp
          refine call_ro hp rfl rfl ?_
          subst c4
          simp (disch := first | omega | (simp only [Lx]; omega)) only [go_sem, simprocAttr, Cod.lbetween_jn]
          refine call_ro hmo rfl rfl ?_
          simp (disch := first | omega | (simp only [Lx]; omega)) only [go_sem, simprocAttr, Cod.lbetween_jn]
          refine vcW_mid hN ?_
          simp (disch := first | omega | (simp only [Lx]; omega)) only [go_sem, simprocAttr, Cod.lbetween_jn]
          refine vcW_mid hN ?_
          by_cases lt : t1 < t2
          · rw [b1 lt] at k1
            generalize canonP x = C at *
            simp (disch := first | omega | (simp only [Lx]; omega)) only [go_sem, simprocAttr, Cod.lbetween_jn]
            (repeat (first | (with_reducible refine gskip_of ?_) | (with_reducible refine gcskip_of ?_) | (with_reducible refine gopen_of ?_)) <;> simp (disch := first | omega | (simp only [Lx]; omega)) only [go_sem, simprocAttr, Cod.lbetween_jn])
            refine gcyes_of (callT_ro (by simp (disch := first | omega | (simp only [Lx]; omega)) only [go_sem, simprocAttr]) k1 (by simp (disch := first | omega | (simp only [Lx]; omega)) only [go_sem, simprocAttr]) rfl rfl ?_)
            simp (disch := first | omega | (simp only [Lx]; omega)) only [go_sem, simprocAttr]
            refine call_ro haw rfl rfl ?_
            simp (disch := first | omega | (simp only [Lx]; omega)) only [go_sem, simprocAttr]
            (repeat (first | (with_reducible refine gskip_of ?_) | (with_reducible refine gcskip_of ?_) | (with_reducible refine gopen_of ?_)) <;> simp (disch := first | omega | (simp only [Lx]; omega)) only [go_sem, simprocAttr])
            refine gcyes_of (callT_ro (by simp (disch := first | omega | (simp only [Lx]; omega)) only [go_sem, simprocAttr]) k2 (by simp (disch := first | omega | (simp only [Lx]; omega)) only [go_sem, simprocAttr]) rfl rfl ?_)
            simp (disch := first | omega | (simp only [Lx]; omega)) only [go_sem, simprocAttr]
            refine gcyes_of (callT_ro (by simp (disch := first | omega | (simp only [Lx]; omega)) only [go_sem, simprocAttr]) k3 (by simp (disch := first | omega | (simp only [Lx]; omega)) only [go_sem, simprocAttr]) rfl rfl ?_)
            simp (disch := first | omega | (simp only [Lx]; omega)) only [go_sem, simprocAttr]
            refine gcyes_of (callT_ro (by simp (disch := first | omega | (simp only [Lx]; omega)) only [go_sem, simprocAttr]) k4 (by simp (disch := first | omega | (simp only [Lx]; omega)) only [go_sem, simprocAttr]) rfl rfl ?_)
            simp (disch := first | omega | (simp only [Lx]; omega)) only [go_sem, simprocAttr, b4]
            exact hR.ro ⟨rfl, rfl⟩
          · generalize canonP x = C at *
            simp (disch := first | omega | (simp only [Lx]; omega)) only [go_sem, simprocAttr, Cod.lbetween_jn]
            (repeat (first | (with_reducible refine gskip_of ?_) | (with_reducible refine gcskip_of ?_) | (with_reducible refine gopen_of ?_)) <;> simp (disch := first | omega | (simp only [Lx]; omega)) only [go_sem, simprocAttr, Cod.lbetween_jn])
            refine call_ro haw rfl rfl ?_
            simp (disch := first | omega | (simp only [Lx]; omega)) only [go_sem, simprocAttr]
            (repeat (first | (with_reducible refine gskip_of ?_) | (with_reducible refine gcskip_of ?_) | (with_reducible refine gopen_of ?_)) <;> simp (disch := first | omega | (simp only [Lx]; omega)) only [go_sem, simprocAttr])
            refine gcyes_of (callT_ro (by simp (disch := first | omega | (simp only [Lx]; omega)) only [go_sem, simprocAttr]) k2 (by simp (disch := first | omega | (simp only [Lx]; omega)) only [go_sem, simprocAttr]) rfl rfl ?_)
            simp (disch := first | omega | (simp only [Lx]; omega)) only [go_sem, simprocAttr]
            refine gcyes_of (callT_ro (by simp (disch := first | omega | (simp only [Lx]; omega)) only [go_sem, simprocAttr]) k3 (by simp (disch := first | omega | (simp only [Lx]; omega)) only [go_sem, simprocAttr]) rfl rfl ?_)
            simp (disch := first | omega | (simp only [Lx]; omega)) only [go_sem, simprocAttr]
            refine gcyes_of (callT_ro (by simp (disch := first | omega | (simp only [Lx]; omega)) only [go_sem, simprocAttr]) k4 (by simp (disch := first | omega | (simp only [Lx]; omega)) only [go_sem, simprocAttr]) rfl rfl ?_)
            simp (disch := first | omega | (simp only [Lx]; omega)) only [go_sem, simprocAttr, b4]
            exact hR.ro ⟨rfl, rfl⟩
        · rcases a4 with ⟨hc, _⟩ | ⟨_, v, hv, _⟩
          · exact absurd hc c4
          · obtain ⟨hml, l1, l2, l3, l4, l5⟩ := parseP_len hv
            obtain ⟨vok, _⟩ := parseP_ok hv
            rw [hv] at hp
            simp only [parseA, verA, Option.getD_some, Option.isSome_some] at hp
            have hmo := rmore_ok v.pa vok.pa.1 (by omega)
            have hml := moreN_len v.pa
            have hn : nextP o = if v.pr = [] then headP v ++ moreN v.pa else headP v ++ v.pa := by unfold nextP; rw [if_neg c4, hv]
            rw [hn] at k3
            refine call_ro hp rfl rfl ?_
            by_cases c5 : v.pr = []
            · rw [if_pos c5] at k3
              unfold headP at k3
              simp (disch := first | omega | (simp only [Lx]; omega)) only [go_sem, simprocAttr, c5, Cod.lbetween_jn]
              refine call_ro hmo rfl rfl ?_
              simp (disch := first | omega | (simp only [Lx]; omega)) only [go_sem, simprocAttr, c4, Cod.lbetween_jn]
              refine vcW_mid hN ?_
              simp (disch := first | omega | (simp only [Lx]; omega)) only [go_sem, simprocAttr, c4, Cod.lbetween_jn]
              refine vcW_mid hN ?_
              by_cases lt : t1 < t2
              · rw [b1 lt] at k1
                generalize canonP x = C at *
                simp (disch := first | omega | (simp only [Lx]; omega)) only [go_sem, simprocAttr, c4, Cod.lbetween_jn]
                (repeat (first | (with_reducible refine gskip_of ?_) | (with_reducible refine gcskip_of ?_) | (with_reducible refine gopen_of ?_)) <;> simp (disch := first | omega | (simp only [Lx]; omega)) only [go_sem, simprocAttr, c4, Cod.lbetween_jn])
                refine gcyes_of (callT_ro (by simp (disch := first | omega | (simp only [Lx]; omega)) only [go_sem, simprocAttr]) k1 (by simp (disch := first | omega | (simp only [Lx]; omega)) only [go_sem, simprocAttr]) rfl rfl ?_)
                simp (disch := first | omega | (simp only [Lx]; omega)) only [go_sem, simprocAttr]
                refine call_ro haw rfl rfl ?_
                simp (disch := first | omega | (simp only [Lx]; omega)) only [go_sem, simprocAttr]
                (repeat (first | (with_reducible refine gskip_of ?_) | (with_reducible refine gcskip_of ?_) | (with_reducible refine gopen_of ?_)) <;> simp (disch := first | omega | (simp only [Lx]; omega)) only [go_sem, simprocAttr])
                refine gcyes_of (callT_ro (by simp (disch := first | omega | (simp only [Lx]; omega)) only [go_sem, simprocAttr]) k2 (by simp (disch := first | omega | (simp only [Lx]; omega)) only [go_sem, simprocAttr]) rfl rfl ?_)
                simp (disch := first | omega | (simp only [Lx]; omega)) only [go_sem, simprocAttr]
                refine gcyes_of (callT_ro (by simp (disch := first | omega | (simp only [Lx]; omega)) only [go_sem, simprocAttr]) k3 (by simp (disch := first | omega | (simp only [Lx]; omega)) only [go_sem, simprocAttr]) rfl rfl ?_)
                simp (disch := first | omega | (simp only [Lx]; omega)) only [go_sem, simprocAttr]
                refine gcyes_of (callT_ro (by simp (disch := first | omega | (simp only [Lx]; omega)) only [go_sem, simprocAttr]) k4 (by simp (disch := first | omega | (simp only [Lx]; omega)) only [go_sem, simprocAttr]) rfl rfl ?_)
                simp (disch := first | omega | (simp only [Lx]; omega)) only [go_sem, simprocAttr, b4]
                exact hR.ro ⟨rfl, rfl⟩
              · generalize canonP x = C at *
                simp (disch := first | omega | (simp only [Lx]; omega)) only [go_sem, simprocAttr, c4, Cod.lbetween_jn]
                (repeat (first | (with_reducible refine gskip_of ?_) | (with_reducible refine gcskip_of ?_) | (with_reducible refine gopen_of ?_)) <;> simp (disch := first | omega | (simp only [Lx]; omega)) only [go_sem, simprocAttr, c4, Cod.lbetween_jn])
                refine call_ro haw rfl rfl ?_
                simp (disch := first | omega | (simp only [Lx]; omega)) only [go_sem, simprocAttr]
                (repeat (first | (with_reducible refine gskip_of ?_) | (with_reducible refine gcskip_of ?_) | (with_reducible refine gopen_of ?_)) <;> simp (disch := first | omega | (simp only [Lx]; omega)) only [go_sem, simprocAttr])
                refine gcyes_of (callT_ro (by simp (disch := first | omega | (simp only [Lx]; omega)) only [go_sem, simprocAttr]) k2 (by simp (disch := first | omega | (simp only [Lx]; omega)) only [go_sem, simprocAttr]) rfl rfl ?_)
                simp (disch := first | omega | (simp only [Lx]; omega)) only [go_sem, simprocAttr]
                refine gcyes_of (callT_ro (by simp (disch := first | omega | (simp only [Lx]; omega)) only [go_sem, simprocAttr]) k3 (by simp (disch := first | omega | (simp only [Lx]; omega)) only [go_sem, simprocAttr]) rfl rfl ?_)
                simp (disch := first | omega | (simp only [Lx]; omega)) only [go_sem, simprocAttr]
                refine gcyes_of (callT_ro (by simp (disch := first | omega | (simp only [Lx]; omega)) only [go_sem, simprocAttr]) k4 (by simp (disch := first | omega | (simp only [Lx]; omega)) only [go_sem, simprocAttr]) rfl rfl ?_)
                simp (disch := first | omega | (simp only [Lx]; omega)) only [go_sem, simprocAttr, b4]
                exact hR.ro ⟨rfl, rfl⟩
            · rw [if_neg c5] at k3
              unfold headP at k3
              simp (disch := first | omega | (simp only [Lx]; omega)) only [go_sem, simprocAttr, c4, c5, Cod.lbetween_jn]
              refine vcW_mid hN ?_
              simp (disch := first | omega | (simp only [Lx]; omega)) only [go_sem, simprocAttr, c4, c5, Cod.lbetween_jn]
              refine vcW_mid hN ?_
              by_cases lt : t1 < t2
              · rw [b1 lt] at k1
                generalize canonP x = C at *
                simp (disch := first | omega | (simp only [Lx]; omega)) only [go_sem, simprocAttr, c4, c5, Cod.lbetween_jn]
                (repeat (first | (with_reducible refine gskip_of ?_) | (with_reducible refine gcskip_of ?_) | (with_reducible refine gopen_of ?_)) <;> simp (disch := first | omega | (simp only [Lx]; omega)) only [go_sem, simprocAttr, c4, c5, Cod.lbetween_jn])
                refine gcyes_of (callT_ro (by simp (disch := first | omega | (simp only [Lx]; omega)) only [go_sem, simprocAttr]) k1 (by simp (disch := first | omega | (simp only [Lx]; omega)) only [go_sem, simprocAttr]) rfl rfl ?_)
                simp (disch := first | omega | (simp only [Lx]; omega)) only [go_sem, simprocAttr]
                refine call_ro haw rfl rfl ?_
                simp (disch := first | omega | (simp only [Lx]; omega)) only [go_sem, simprocAttr]
                (repeat (first | (with_reducible refine gskip_of ?_) | (with_reducible refine gcskip_of ?_) | (with_reducible refine gopen_of ?_)) <;> simp (disch := first | omega | (simp only [Lx]; omega)) only [go_sem, simprocAttr])
                refine gcyes_of (callT_ro (by simp (disch := first | omega | (simp only [Lx]; omega)) only [go_sem, simprocAttr]) k2 (by simp (disch := first | omega | (simp only [Lx]; omega)) only [go_sem, simprocAttr]) rfl rfl ?_)
                simp (disch := first | omega | (simp only [Lx]; omega)) only [go_sem, simprocAttr]
                refine gcyes_of (callT_ro (by simp (disch := first | omega | (simp only [Lx]; omega)) only [go_sem, simprocAttr]) k3 (by simp (disch := first | omega | (simp only [Lx]; omega)) only [go_sem, simprocAttr]) rfl rfl ?_)
                simp (disch := first | omega | (simp only [Lx]; omega)) only [go_sem, simprocAttr]
                refine gcyes_of (callT_ro (by simp (disch := first | omega | (simp only [Lx]; omega)) only [go_sem, simprocAttr]) k4 (by simp (disch := first | omega | (simp only [Lx]; omega)) only [go_sem, simprocAttr]) rfl rfl ?_)
                simp (disch := first | omega | (simp only [Lx]; omega)) only [go_sem, simprocAttr, b4]
                exact hR.ro ⟨rfl, rfl⟩
              · generalize canonP x = C at *
                simp (disch := first | omega | (simp only [Lx]; omega)) only [go_sem, simprocAttr, c4, c5, Cod.lbetween_jn]
                (repeat (first | (with_reducible refine gskip_of ?_) | (with_reducible refine gcskip_of ?_) | (with_reducible refine gopen_of ?_)) <;> simp (disch := first | omega | (simp only [Lx]; omega)) only [go_sem, simprocAttr, c4, c5, Cod.lbetween_jn])
                refine call_ro haw rfl rfl ?_
                simp (disch := first | omega | (simp only [Lx]; omega)) only [go_sem, simprocAttr]
                (repeat (first | (with_reducible refine gskip_of ?_) | (with_reducible refine gcskip_of ?_) | (with_reducible refine gopen_of ?_)) <;> simp (disch := first | omega | (simp only [Lx]; omega)) only [go_sem, simprocAttr])
                refine gcyes_of (callT_ro (by simp (disch := first | omega | (simp only [Lx]; omega)) only [go_sem, simprocAttr]) k2 (by simp (disch := first | omega | (simp only [Lx]; omega)) only [go_sem, simprocAttr]) rfl rfl ?_)
                simp (disch := first | omega | (simp only [Lx]; omega)) only [go_sem, simprocAttr]
                refine gcyes_of (callT_ro (by simp (disch := first | omega | (simp only [Lx]; omega)) only [go_sem, simprocAttr]) k3 (by simp (disch := first | omega | (simp only [Lx]; omega)) only [go_sem, simprocAttr]) rfl rfl ?_)
                simp (disch := first | omega | (simp only [Lx]; omega)) only [go_sem, simprocAttr]
                refine gcyes_of (callT_ro (by simp (disch := first | omega | (simp only [Lx]; omega)) only [go_sem, simprocAttr]) k4 (by simp (disch := first | omega | (simp only [Lx]; omega)) only [go_sem, simprocAttr]) rfl rfl ?_)
                simp (disch := first | omega | (simp only [Lx]; omega)) only [go_sem, simprocAttr, b4]
                exact hR.ro ⟨rfl, rfl⟩
      · simp (disch := first | omega | (simp only [Lx]; omega)) only [go_sem, simprocAttr]
        (repeat (first | (with_reducible refine gskip_of ?_) | (with_reducible refine gcskip_of ?_) | (with_reducible refine gopen_of ?_)) <;> simp (disch := first | omega | (simp only [Lx]; omega)) only [go_sem, simprocAttr])
        refine call_ro haw rfl rfl ?_
        simp (disch := first | omega | (simp only [Lx]; omega)) only [go_sem, simprocAttr]
        exact hR.ro ⟨rfl, rfl⟩
    · simp (disch := first | omega | (simp only [Lx]; omega)) only [go_sem, simprocAttr, c2]
      (repeat (first | (with_reducible refine gskip_of ?_) | (with_reducible refine gcskip_of ?_) | (with_reducible refine gopen_of ?_)) <;> simp (disch := first | omega | (simp only [Lx]; omega)) only [go_sem, simprocAttr, c2])
      refine call_ro haw rfl rfl ?_
      simp (disch := first | omega | (simp only [Lx]; omega)) only [go_sem, simprocAttr]
      exact hR.ro ⟨rfl, rfl⟩
  · simp (disch := first | omega | (simp only [Lx]; omega)) only [go_sem, simprocAttr, c1]
    (repeat (first | (with_reducible refine gskip_of ?_) | (with_reducible refine gcskip_of ?_) | (with_reducible refine gopen_of ?_)) <;> simp (disch := first | omega | (simp only [Lx]; omega)) only [go_sem, simprocAttr, c1])
    refine call_ro haw rfl rfl ?_
    simp (disch := first | omega | (simp only [Lx]; omega)) only [go_sem, simprocAttr]
    exact hR.ro ⟨rfl, rfl⟩
end Go.Proofs.YtgkcbhdpenmogaaDoor.Ps
