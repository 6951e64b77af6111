/- Pseudo: calendars: leap years, months, seconds: the program's and the document's. -/
import Derived.Test.YtgkcbhdpenmogaaDoorPsSem
import Derived.Test.YtgkcbhdpenmogaaDoorPsCode
set_option linter.all false
namespace Go.Proofs.YtgkcbhdpenmogaaDoor.Ps
open Eng Sv
set_option maxRecDepth 10000
def leapB (y : Int) : Bool := decide (y % 4 = 0) && (!decide (y % 100 = 0) || decide (y % 400 = 0))
def daysI (y m : Int) : Int := if m = 2 then (if leapB y = true then 29 else 28) else if m = 4 ∨ m = 6 ∨ m = 9 ∨ m = 11 then 30 else if 1 ≤ m ∧ m ≤ 12 then 31 else 0
theorem leap_ok (y : Int) (h0 : 0 ≤ y) (h1 : y ≤ 10000) : SpecR Tryd.prog 66 [.int .i64 y] (.bool (leapB y)) := by
  refine Cod.leap_spec (fun E R hN hR => ?_)
  unfold leapB at hR
  by_cases h4 : y % 4 = 0
  · by_cases h100 : y % 100 = 0
    · by_cases h400 : y % 400 = 0
      · simp (disch := first | omega | (simp only [Lx]; omega)) only [go_sem, simprocAttr, h4, h100, h400]
        (repeat (first | (with_reducible refine gskip_of ?_) | (with_reducible refine gcskip_of ?_) | (with_reducible refine gopen_of ?_)) <;> simp (disch := first | omega | (simp only [Lx]; omega)) only [go_sem, simprocAttr, h4, h100, h400])
        exact hR.ro ⟨rfl, by simp [h4, h100, h400]⟩
      · simp (disch := first | omega | (simp only [Lx]; omega)) only [go_sem, simprocAttr, h4, h100, h400]
        (repeat (first | (with_reducible refine gskip_of ?_) | (with_reducible refine gcskip_of ?_) | (with_reducible refine gopen_of ?_)) <;> simp (disch := first | omega | (simp only [Lx]; omega)) only [go_sem, simprocAttr, h4, h100, h400])
        exact hR.ro ⟨rfl, by simp [h4, h100, h400]⟩
    · simp (disch := first | omega | (simp only [Lx]; omega)) only [go_sem, simprocAttr, h4, h100]
      (repeat (first | (with_reducible refine gskip_of ?_) | (with_reducible refine gcskip_of ?_) | (with_reducible refine gopen_of ?_)) <;> simp (disch := first | omega | (simp only [Lx]; omega)) only [go_sem, simprocAttr, h4, h100])
      exact hR.ro ⟨rfl, by simp [h4, h100]⟩
  · simp (disch := first | omega | (simp only [Lx]; omega)) only [go_sem, simprocAttr, h4]
    (repeat (first | (with_reducible refine gskip_of ?_) | (with_reducible refine gcskip_of ?_) | (with_reducible refine gopen_of ?_)) <;> simp (disch := first | omega | (simp only [Lx]; omega)) only [go_sem, simprocAttr, h4])
    exact hR.ro ⟨rfl, by simp [h4]⟩
theorem rleap_ok (y : Int) (h0 : 0 ≤ y) (h1 : y ≤ 10000) : SpecR Tryd.prog 67 [.int .i64 y] (.bool (leapB y)) := by
  refine Cod.rleap_spec (fun E R hN hR => ?_)
  unfold leapB at hR
  by_cases h4 : y % 4 = 0
  · by_cases h100 : y % 100 = 0
    · by_cases h400 : y % 400 = 0
      · simp (disch := first | omega | (simp only [Lx]; omega)) only [go_sem, simprocAttr, h4, h100, h400]
        (repeat (first | (with_reducible refine gskip_of ?_) | (with_reducible refine gcskip_of ?_) | (with_reducible refine gopen_of ?_)) <;> simp (disch := first | omega | (simp only [Lx]; omega)) only [go_sem, simprocAttr, h4, h100, h400])
        exact hR.ro ⟨rfl, by simp [h4, h100, h400]⟩
      · simp (disch := first | omega | (simp only [Lx]; omega)) only [go_sem, simprocAttr, h4, h100, h400]
        (repeat (first | (with_reducible refine gskip_of ?_) | (with_reducible refine gcskip_of ?_) | (with_reducible refine gopen_of ?_)) <;> simp (disch := first | omega | (simp only [Lx]; omega)) only [go_sem, simprocAttr, h4, h100, h400])
        exact hR.ro ⟨rfl, by simp [h4, h100, h400]⟩
    · simp (disch := first | omega | (simp only [Lx]; omega)) only [go_sem, simprocAttr, h4, h100]
      (repeat (first | (with_reducible refine gskip_of ?_) | (with_reducible refine gcskip_of ?_) | (with_reducible refine gopen_of ?_)) <;> simp (disch := first | omega | (simp only [Lx]; omega)) only [go_sem, simprocAttr, h4, h100])
      exact hR.ro ⟨rfl, by simp [h4, h100]⟩
  · have h400 : ¬ y % 400 = 0 := by omega
    simp (disch := first | omega | (simp only [Lx]; omega)) only [go_sem, simprocAttr, h4, h400]
    (repeat (first | (with_reducible refine gskip_of ?_) | (with_reducible refine gcskip_of ?_) | (with_reducible refine gopen_of ?_)) <;> simp (disch := first | omega | (simp only [Lx]; omega)) only [go_sem, simprocAttr, h4, h400])
    exact hR.ro ⟨rfl, by simp [h4]⟩
theorem rlength_ok (y : Int) (h0 : 0 ≤ y) (h1 : y ≤ 10000) : SpecR Tryd.prog 59 [.int .i64 y] (.int .i64 (if leapB y = true then 366 else 365)) := by
  refine Cod.rlength_spec (fun E R hN hR => ?_)
  simp (disch := first | omega | (simp only [Lx]; omega)) only [go_sem, simprocAttr]
  refine call_ro (rleap_ok y h0 h1) rfl rfl ?_
  cases h : leapB y with
  | true =>
    rw [h] at hR
    simp (disch := first | omega | (simp only [Lx]; omega)) only [go_sem, simprocAttr]
    exact hR.ro ⟨rfl, rfl⟩
  | false =>
    rw [h] at hR
    simp (disch := first | omega | (simp only [Lx]; omega)) only [go_sem, simprocAttr]
    exact hR.ro ⟨rfl, rfl⟩
theorem nth_c0 (x : AV) (r : List AV) : nth (x :: r) 0 = x := (rfl)
theorem nth_cs (x : AV) (r : List AV) (k : Nat) : nth (x :: r) (k + 1) = nth r k := by simp [nth]
theorem cases12 {m : Int} (h : 1 ≤ m ∧ m ≤ 12) : m = 1 ∨ m = 2 ∨ m = 3 ∨ m = 4 ∨ m = 5 ∨ m = 6 ∨ m = 7 ∨ m = 8 ∨ m = 9 ∨ m = 10 ∨ m = 11 ∨ m = 12 := by omega
theorem cdays_ok (y m : Int) (h0 : 0 ≤ y) (h1 : y ≤ 10000) (hm0 : 0 ≤ m) (hm1 : m ≤ 200) : SpecR Tryd.prog 56 [.int .i64 y, .int .i64 m] (.int .i64 (daysI y m)) := by
  refine Cod.cdays_spec (fun E R hN hR => ?_)
  have hl := leap_ok y h0 h1
  by_cases hin : 1 ≤ m ∧ m ≤ 12
  · rcases cases12 hin with rfl | rfl | rfl | rfl | rfl | rfl | rfl | rfl | rfl | rfl | rfl | rfl
    case inr.inl =>
      simp (disch := first | omega | (simp only [Lx]; omega)) only [go_sem, simprocAttr]
      refine call_ro hl rfl rfl ?_
      cases h : leapB y with
      | true =>
        unfold daysI at hR
        rw [h] at hR
        simp (disch := first | omega | (simp only [Lx]; omega)) only [go_sem, simprocAttr]
        exact hR.ro ⟨rfl, rfl⟩
      | false =>
        unfold daysI at hR
        rw [h] at hR
        simp (disch := first | omega | (simp only [Lx]; omega)) only [go_sem, simprocAttr]
        exact hR.ro ⟨rfl, rfl⟩
    all_goals
      (repeat (first | (with_reducible refine vcW_mid hN ?_) | simp (disch := first | omega | (simp only [Lx]; omega)) only [go_sem, simprocAttr, Cod.cdays_jn]))
      exact hR.ro ⟨rfl, rfl⟩
  · have n1 : ¬ m = 1 := by omega
    have n2 : ¬ m = 2 := by omega
    have n3 : ¬ m = 3 := by omega
    have n4 : ¬ m = 4 := by omega
    have n5 : ¬ m = 5 := by omega
    have n6 : ¬ m = 6 := by omega
    have n7 : ¬ m = 7 := by omega
    have n8 : ¬ m = 8 := by omega
    have n9 : ¬ m = 9 := by omega
    have n10 : ¬ m = 10 := by omega
    have n11 : ¬ m = 11 := by omega
    have n12 : ¬ m = 12 := by omega
    (repeat (first | (with_reducible refine vcW_mid hN ?_) | simp (disch := first | omega | (simp only [Lx]; omega)) only [go_sem, simprocAttr, Cod.cdays_jn, n1, n2, n3, n4, n5, n6, n7, n8, n9, n10, n11, n12]))
    refine hR.ro ⟨rfl, ?_⟩
    unfold daysI
    rw [if_neg n2, if_neg (by omega), if_neg hin]
theorem rdays_ok (y m : Int) (h0 : 0 ≤ y) (h1 : y ≤ 10000) (hm0 : 0 ≤ m) (hm1 : m ≤ 200) : SpecR Tryd.prog 58 [.int .i64 y, .int .i64 m] (.int .i64 (daysI y m)) := by
  refine Cod.rdays_spec (fun E R hN hR => ?_)
  have hl := rleap_ok y h0 h1
  by_cases hin : 1 ≤ m ∧ m ≤ 12
  · rcases cases12 hin with rfl | rfl | rfl | rfl | rfl | rfl | rfl | rfl | rfl | rfl | rfl | rfl
    case inr.inl =>
      simp (disch := first | omega | (simp only [Lx]; omega)) only [go_sem, simprocAttr, nth_c0, nth_cs]
      (repeat (first | (with_reducible refine gskip_of ?_) | (with_reducible refine gcskip_of ?_) | (with_reducible refine gopen_of ?_)) <;> simp (disch := first | omega | (simp only [Lx]; omega)) only [go_sem, simprocAttr, nth_c0, nth_cs])
      refine gcyes_of (callT_ro (by simp (disch := first | omega | (simp only [Lx]; omega)) only [go_sem, simprocAttr]) hl (by simp (disch := first | omega | (simp only [Lx]; omega)) only [go_sem, simprocAttr]) rfl rfl ?_)
      cases h : leapB y with
      | true =>
        unfold daysI at hR
        rw [h] at hR
        simp (disch := first | omega | (simp only [Lx]; omega)) only [go_sem, simprocAttr, Cod.rdays_jn, nth_c0, nth_cs]
        exact hR.ro ⟨rfl, rfl⟩
      | false =>
        unfold daysI at hR
        rw [h] at hR
        simp (disch := first | omega | (simp only [Lx]; omega)) only [go_sem, simprocAttr, Cod.rdays_jn, nth_c0, nth_cs]
        exact hR.ro ⟨rfl, rfl⟩
    all_goals
      simp (disch := first | omega | (simp only [Lx]; omega)) only [go_sem, simprocAttr, Cod.rdays_jn, nth_c0, nth_cs]
      (repeat (first | (with_reducible refine gskip_of ?_) | (with_reducible refine gcskip_of ?_) | (with_reducible refine gopen_of ?_)) <;> simp (disch := first | omega | (simp only [Lx]; omega)) only [go_sem, simprocAttr, Cod.rdays_jn, nth_c0, nth_cs])
      exact hR.ro ⟨rfl, rfl⟩
  · have e : daysI y m = 0 := by
      unfold daysI
      rw [if_neg (by omega), if_neg (by omega), if_neg hin]
    rw [e] at hR
    by_cases hm : m < 1
    · simp (disch := first | omega | (simp only [Lx]; omega)) only [go_sem, simprocAttr, Cod.rdays_jn, nth_c0, nth_cs]
      (repeat (first | (with_reducible refine gskip_of ?_) | (with_reducible refine gcskip_of ?_) | (with_reducible refine gopen_of ?_)) <;> simp (disch := first | omega | (simp only [Lx]; omega)) only [go_sem, simprocAttr, Cod.rdays_jn, nth_c0, nth_cs])
      exact hR.ro ⟨rfl, rfl⟩
    · have : 12 < m := by omega
      simp (disch := first | omega | (simp only [Lx]; omega)) only [go_sem, simprocAttr, Cod.rdays_jn, nth_c0, nth_cs]
      (repeat (first | (with_reducible refine gskip_of ?_) | (with_reducible refine gcskip_of ?_) | (with_reducible refine gopen_of ?_)) <;> simp (disch := first | omega | (simp only [Lx]; omega)) only [go_sem, simprocAttr, Cod.rdays_jn, nth_c0, nth_cs])
      exact hR.ro ⟨rfl, rfl⟩
/- SECONDS -/
def okD (y m d h i s : Int) : Bool := decide (1 ≤ y) && decide (y ≤ 9999) && decide (1 ≤ d) && decide (d ≤ daysI y m) && decide (h ≤ 23) && decide (i ≤ 59) && decide (s ≤ 59)
/-- the days ahead of a year (March begins the year) -/
def dayI (y m d : Int) : Int := if m < 3 then 365 * (y - 1) + (y - 1) / 4 - (y - 1) / 100 + (y - 1) / 400 + (153 * (m + 9) + 2) / 5 + d - 1 - 306 else 365 * y + y / 4 - y / 100 + y / 400 + (153 * (m - 3) + 2) / 5 + d - 1 - 306
def unixI (y m d h i s : Int) : Int := -62135596800 + 86400 * dayI y m d + 3600 * h + 60 * i + s
theorem daysI_in (y m : Int) : 0 ≤ daysI y m ∧ daysI y m ≤ 31 ∧ (1 ≤ daysI y m → 1 ≤ m ∧ m ≤ 12) := by
  unfold daysI
  split
  · split <;> omega
  · split
    · omega
    · split <;> omega
structure DtB (y m d h i s : Int) : Prop where
  y0 : 0 ≤ y
  y1 : y ≤ 9999
  m0 : 0 ≤ m
  m1 : m ≤ 100
  d0 : 0 ≤ d
  d1 : d ≤ 100
  h0 : 0 ≤ h
  h1 : h ≤ 100
  i0 : 0 ≤ i
  i1 : i ≤ 100
  s0 : 0 ≤ s
  s1 : s ≤ 100
theorem cunix_ok (y m d h i s : Int) (hb : DtB y m d h i s) : SpecR Tryd.prog 42 [.agg [.int .i64 y, .int .i64 m, .int .i64 d, .int .i64 h, .int .i64 i, .int .i64 s, .int .i64 0]]
    (.tup [.int .i64 (if okD y m d h i s = true then unixI y m d h i s else 0), .int .i64 (if okD y m d h i s = true then 0 else 1)]) := by
  refine Cod.cunix_spec (fun E R hN hR => ?_)
  obtain ⟨y0, y1, m0, m1, d0, d1, h0, h1, i0, i1, s0, s1⟩ := hb
  have bad : okD y m d h i s = false → ∀ h0, R h0 (.tup [.int .i64 0, .int .i64 1]) [.undef] := fun hn h0 => hR.wk (h' := []) (r' := .tup [.int .i64 0, .int .i64 1]) (ar' := [.undef]) rfl (.le (by simp (disch := first | omega | (simp only [Lx]; omega)) only [go_sem, simprocAttr])) ⟨rfl, by rw [hn]; rfl⟩
  unfold okD at bad
  have hdy := cdays_ok y m y0 (by omega) m0 (by omega)
  have hdi := daysI_in y m
  generalize hD : daysI y m = D at *
  by_cases c1 : 1 ≤ y
  · by_cases c3 : 1 ≤ d
    · by_cases c4 : d ≤ D
      · by_cases c5 : h ≤ 23
        · by_cases c6 : i ≤ 59
          · by_cases c7 : s ≤ 59
            · have hok : okD y m d h i s = true := by unfold okD; rw [hD]; simp [c1, y1, c3, c4, c5, c6, c7]
              have hm := hdi.2.2 (by omega)
              rw [hok, if_pos rfl, if_pos rfl] at hR
              unfold unixI dayI at hR
              by_cases hm3 : m < 3
              · rw [if_pos hm3] at hR
                simp (disch := first | omega | (simp only [Lx]; omega)) only [go_sem, simprocAttr]
                (repeat (first | (with_reducible refine gskip_of ?_) | (with_reducible refine gcskip_of ?_) | (with_reducible refine gopen_of ?_)) <;> simp (disch := first | omega | (simp only [Lx]; omega)) only [go_sem, simprocAttr])
                refine gcyes_of (callT_ro (by simp (disch := first | omega | (simp only [Lx]; omega)) only [go_sem, simprocAttr]) hdy (by simp (disch := first | omega | (simp only [Lx]; omega)) only [go_sem, simprocAttr]) rfl rfl ?_)
                simp (disch := first | omega | (simp only [Lx]; omega)) only [go_sem, simprocAttr, Cod.cunix_jn]
                (repeat (first | (with_reducible refine gskip_of ?_) | (with_reducible refine gcskip_of ?_) | (with_reducible refine gopen_of ?_)) <;> simp (disch := first | omega | (simp only [Lx]; omega)) only [go_sem, simprocAttr, Cod.cunix_jn])
                refine vcW_mid hN ?_
                simp (disch := first | omega | (simp only [Lx]; omega)) only [go_sem, simprocAttr]
                refine hR.ro ⟨rfl, ?_⟩
                congr 3
                omega
              · rw [if_neg hm3] at hR
                simp (disch := first | omega | (simp only [Lx]; omega)) only [go_sem, simprocAttr]
                (repeat (first | (with_reducible refine gskip_of ?_) | (with_reducible refine gcskip_of ?_) | (with_reducible refine gopen_of ?_)) <;> simp (disch := first | omega | (simp only [Lx]; omega)) only [go_sem, simprocAttr])
                refine gcyes_of (callT_ro (by simp (disch := first | omega | (simp only [Lx]; omega)) only [go_sem, simprocAttr]) hdy (by simp (disch := first | omega | (simp only [Lx]; omega)) only [go_sem, simprocAttr]) rfl rfl ?_)
                simp (disch := first | omega | (simp only [Lx]; omega)) only [go_sem, simprocAttr, Cod.cunix_jn]
                (repeat (first | (with_reducible refine gskip_of ?_) | (with_reducible refine gcskip_of ?_) | (with_reducible refine gopen_of ?_)) <;> simp (disch := first | omega | (simp only [Lx]; omega)) only [go_sem, simprocAttr, Cod.cunix_jn])
                refine vcW_mid hN ?_
                simp (disch := first | omega | (simp only [Lx]; omega)) only [go_sem, simprocAttr]
                refine hR.ro ⟨rfl, ?_⟩
                congr 3
            · have bad := bad (by simp [c7])
              simp (disch := first | omega | (simp only [Lx]; omega)) only [go_sem, simprocAttr]
              (repeat (first | (with_reducible refine gskip_of ?_) | (with_reducible refine gcskip_of ?_) | (with_reducible refine gopen_of ?_)) <;> simp (disch := first | omega | (simp only [Lx]; omega)) only [go_sem, simprocAttr])
              refine gcyes_of (callT_ro (by simp (disch := first | omega | (simp only [Lx]; omega)) only [go_sem, simprocAttr]) hdy (by simp (disch := first | omega | (simp only [Lx]; omega)) only [go_sem, simprocAttr]) rfl rfl ?_)
              simp (disch := first | omega | (simp only [Lx]; omega)) only [go_sem, simprocAttr, Cod.cunix_jn]
              (repeat (first | (with_reducible refine gskip_of ?_) | (with_reducible refine gcskip_of ?_) | (with_reducible refine gopen_of ?_)) <;> simp (disch := first | omega | (simp only [Lx]; omega)) only [go_sem, simprocAttr, Cod.cunix_jn])
              exact bad _
          · have bad := bad (by simp [c6])
            simp (disch := first | omega | (simp only [Lx]; omega)) only [go_sem, simprocAttr]
            (repeat (first | (with_reducible refine gskip_of ?_) | (with_reducible refine gcskip_of ?_) | (with_reducible refine gopen_of ?_)) <;> simp (disch := first | omega | (simp only [Lx]; omega)) only [go_sem, simprocAttr])
            refine gcyes_of (callT_ro (by simp (disch := first | omega | (simp only [Lx]; omega)) only [go_sem, simprocAttr]) hdy (by simp (disch := first | omega | (simp only [Lx]; omega)) only [go_sem, simprocAttr]) rfl rfl ?_)
            simp (disch := first | omega | (simp only [Lx]; omega)) only [go_sem, simprocAttr, Cod.cunix_jn]
            (repeat (first | (with_reducible refine gskip_of ?_) | (with_reducible refine gcskip_of ?_) | (with_reducible refine gopen_of ?_)) <;> simp (disch := first | omega | (simp only [Lx]; omega)) only [go_sem, simprocAttr, Cod.cunix_jn])
            exact bad _
        · have bad := bad (by simp [c5])
          simp (disch := first | omega | (simp only [Lx]; omega)) only [go_sem, simprocAttr]
          (repeat (first | (with_reducible refine gskip_of ?_) | (with_reducible refine gcskip_of ?_) | (with_reducible refine gopen_of ?_)) <;> simp (disch := first | omega | (simp only [Lx]; omega)) only [go_sem, simprocAttr])
          refine gcyes_of (callT_ro (by simp (disch := first | omega | (simp only [Lx]; omega)) only [go_sem, simprocAttr]) hdy (by simp (disch := first | omega | (simp only [Lx]; omega)) only [go_sem, simprocAttr]) rfl rfl ?_)
          simp (disch := first | omega | (simp only [Lx]; omega)) only [go_sem, simprocAttr, Cod.cunix_jn]
          (repeat (first | (with_reducible refine gskip_of ?_) | (with_reducible refine gcskip_of ?_) | (with_reducible refine gopen_of ?_)) <;> simp (disch := first | omega | (simp only [Lx]; omega)) only [go_sem, simprocAttr, Cod.cunix_jn])
          exact bad _
      · have bad := bad (by simp [c4])
        simp (disch := first | omega | (simp only [Lx]; omega)) only [go_sem, simprocAttr]
        (repeat (first | (with_reducible refine gskip_of ?_) | (with_reducible refine gcskip_of ?_) | (with_reducible refine gopen_of ?_)) <;> simp (disch := first | omega | (simp only [Lx]; omega)) only [go_sem, simprocAttr])
        refine gcyes_of (callT_ro (by simp (disch := first | omega | (simp only [Lx]; omega)) only [go_sem, simprocAttr]) hdy (by simp (disch := first | omega | (simp only [Lx]; omega)) only [go_sem, simprocAttr]) rfl rfl ?_)
        simp (disch := first | omega | (simp only [Lx]; omega)) only [go_sem, simprocAttr, Cod.cunix_jn]
        (repeat (first | (with_reducible refine gskip_of ?_) | (with_reducible refine gcskip_of ?_) | (with_reducible refine gopen_of ?_)) <;> simp (disch := first | omega | (simp only [Lx]; omega)) only [go_sem, simprocAttr, Cod.cunix_jn])
        exact bad _
    · have bad := bad (by simp [c3])
      simp (disch := first | omega | (simp only [Lx]; omega)) only [go_sem, simprocAttr]
      (repeat (first | (with_reducible refine gskip_of ?_) | (with_reducible refine gcskip_of ?_) | (with_reducible refine gopen_of ?_)) <;> simp (disch := first | omega | (simp only [Lx]; omega)) only [go_sem, simprocAttr])
      exact bad _
  · have bad := bad (by simp [c1])
    simp (disch := first | omega | (simp only [Lx]; omega)) only [go_sem, simprocAttr]
    (repeat (first | (with_reducible refine gskip_of ?_) | (with_reducible refine gcskip_of ?_) | (with_reducible refine gopen_of ?_)) <;> simp (disch := first | omega | (simp only [Lx]; omega)) only [go_sem, simprocAttr])
    exact bad _
theorem div_step (c y : Int) (hc : 0 < c) (h : 1 ≤ y) : y / c = (y - 1) / c + (if y % c = 0 then 1 else 0) := by
  have e1 := Int.mul_ediv_add_emod y c
  have r0 := Int.emod_nonneg y (show c ≠ 0 by omega)
  have r1 := Int.emod_lt_of_pos y hc
  by_cases hm : y % c = 0
  · rw [if_pos hm]
    have : (y - 1) / c = y / c - 1 := by
      rw [Int.ediv_eq_iff_of_pos hc]
      rw [hm] at e1
      constructor
      · rw [Int.sub_mul, Int.mul_comm]; omega
      · rw [Int.sub_mul, Int.mul_comm (y / c) c]; omega
    omega
  · rw [if_neg hm]
    have : (y - 1) / c = y / c := by
      rw [Int.ediv_eq_iff_of_pos hc]
      constructor
      · rw [Int.mul_comm]; omega
      · rw [Int.mul_comm (y / c) c]; omega
    omega
theorem leap_step (y : Int) (h : 1 ≤ y) : y / 4 - y / 100 + y / 400 = (y - 1) / 4 - (y - 1) / 100 + (y - 1) / 400 + (if leapB y = true then 1 else 0) := by
  have d4 := div_step 4 y (by decide) h
  have d100 := div_step 100 y (by decide) h
  have d400 := div_step 400 y (by decide) h
  have m1 : y % 100 = 0 → y % 4 = 0 := by omega
  have m2 : y % 400 = 0 → y % 100 = 0 := by omega
  unfold leapB
  generalize (y - 1) / 4 = a at *
  generalize (y - 1) / 100 = b at *
  generalize (y - 1) / 400 = c at *
  rw [d4, d100, d400]
  by_cases h4 : y % 4 = 0
  · by_cases h100 : y % 100 = 0
    · by_cases h400 : y % 400 = 0
      · simp only [h4, h100, h400]; simp; omega
      · simp only [h4, h100, h400]; simp; omega
    · have h400 : ¬ y % 400 = 0 := fun e => h100 (m2 e)
      simp only [h4, h100, h400]; simp; omega
  · have h100 : ¬ y % 100 = 0 := fun e => h4 (m1 e)
    have h400 : ¬ y % 400 = 0 := fun e => h100 (m2 e)
    simp only [h4, h100, h400]; simp
theorem year_step (y : Int) (h : 1 ≤ y) : dayI (y + 1) 1 1 = dayI y 1 1 + (if leapB y = true then 366 else 365) := by
  have := leap_step y h
  unfold dayI
  rw [if_pos (by decide), if_pos (by decide), show y + 1 - 1 = y by omega]
  generalize (y - 1) / 4 = a at *
  generalize (y - 1) / 100 = b at *
  generalize (y - 1) / 400 = c at *
  generalize y / 4 = a' at *
  generalize y / 100 = b' at *
  generalize y / 400 = c' at *
  cases hl : leapB y with
  | true => rw [hl, if_pos rfl] at this; rw [if_pos rfl]; omega
  | false => rw [hl, if_neg (by decide)] at this; rw [if_neg (by decide)]; omega
theorem year_base (k : Int) : dayI (1 + k * 400) 1 1 = k * 146097 := by
  unfold dayI
  rw [if_pos (by decide)]
  omega
theorem month_step (y m : Int) (hy : 1 ≤ y) (h1 : 1 ≤ m) (h2 : m < 12) : dayI y (m + 1) 1 = dayI y m 1 + daysI y m := by
  have hl := leap_step y hy
  unfold dayI daysI
  generalize (y - 1) / 4 = a at *
  generalize (y - 1) / 100 = b at *
  generalize (y - 1) / 400 = c at *
  generalize y / 4 = a' at *
  generalize y / 100 = b' at *
  generalize y / 400 = c' at *
  rcases cases12 ⟨h1, by omega⟩ with rfl | rfl | rfl | rfl | rfl | rfl | rfl | rfl | rfl | rfl | rfl | rfl
  case inr.inl =>
    rw [if_neg (by decide), if_pos (by decide), if_pos rfl]
    cases h : leapB y with
    | true => rw [h, if_pos rfl] at hl; rw [if_pos rfl]; omega
    | false => rw [h, if_neg (by decide)] at hl; rw [if_neg (by decide)]; omega
  all_goals first | (exfalso; omega) | (clear hl; simp; omega)
theorem day_d (y m d : Int) : dayI y m d = dayI y m 1 + (d - 1) := by
  unfold dayI
  split <;> omega
theorem dayI_rng (y m d : Int) (hy0 : 0 ≤ y) (hy : y ≤ 10000) (hm0 : 0 ≤ m) (hm : m ≤ 100) (hd0 : 0 ≤ d) (hd : d ≤ 100) : -10000 ≤ dayI y m d ∧ dayI y m d ≤ 10000000 := by
  unfold dayI
  split <;> omega
theorem runix_ok (y m d h i s : Int) (hb : DtB y m d h i s) : SpecR Tryd.prog 46 [.ro 1 [.int .i64 y, .int .i64 m, .int .i64 d, .int .i64 h, .int .i64 i, .int .i64 s]]
    (.tup [.int .i64 (if okD y m d h i s = true then unixI y m d h i s else 0), .bool (okD y m d h i s)]) := by
  refine Cod.runix_spec (fun E R hN hR => ?_)
  obtain ⟨y0, y1, m0, m1, d0, d1, h0, h1, i0, i1, s0, s1⟩ := hb
  have bad : okD y m d h i s = false → R [] (.tup [.int .i64 0, .bool false]) [.undef] := fun hn => hR.wk (h' := []) (r' := .tup [.int .i64 0, .bool false]) (ar' := [.undef]) rfl (.le (by simp (disch := first | omega | (simp only [Lx]; omega)) only [go_sem, simprocAttr])) ⟨rfl, by rw [hn]; rfl⟩
  unfold okD at bad
  have hdy := rdays_ok y m y0 (by omega) m0 (by omega)
  have hdi := daysI_in y m
  have e0 : (0 : Int).toNat = 0 := rfl
  generalize hD : daysI y m = D at *
  by_cases c1 : 1 ≤ y
  · by_cases c3 : 1 ≤ d
    · by_cases c4 : d ≤ D
      · by_cases c5 : h ≤ 23
        · by_cases c6 : i ≤ 59
          · by_cases c7 : s ≤ 59
            · have hok : okD y m d h i s = true := by unfold okD; rw [hD]; simp [c1, y1, c3, c4, c5, c6, c7]
              have hm := hdi.2.2 (by omega)
              rw [hok, if_pos rfl] at hR
              unfold unixI at hR
              simp (disch := first | omega | (simp only [Lx]; omega)) only [go_sem, simprocAttr, nth_c0, nth_cs]
              (repeat (first | (with_reducible refine gskip_of ?_) | (with_reducible refine gcskip_of ?_) | (with_reducible refine gopen_of ?_)) <;> simp (disch := first | omega | (simp only [Lx]; omega)) only [go_sem, simprocAttr, nth_c0, nth_cs])
              refine gcyes_of (callT_ro (by simp (disch := first | omega | (simp only [Lx]; omega)) only [go_sem, simprocAttr]) hdy (by simp (disch := first | omega | (simp only [Lx]; omega)) only [go_sem, simprocAttr]) rfl rfl ?_)
              simp (disch := first | omega | (simp only [Lx]; omega)) only [go_sem, simprocAttr, nth_c0, nth_cs]
              (repeat (first | (with_reducible refine gskip_of ?_) | (with_reducible refine gcskip_of ?_) | (with_reducible refine gopen_of ?_)) <;> simp (disch := first | omega | (simp only [Lx]; omega)) only [go_sem, simprocAttr, nth_c0, nth_cs])
              have hM : 1 ≤ m ∧ m ≤ 12 := hm
              refine vcW_loop hN (fun a : Nat => ⟨[(0, .ro 1 [.int .i64 y, .int .i64 m, .int .i64 d, .int .i64 h, .int .i64 i, .int .i64 s]), (4, .int .i64 (dayI (1 + (y - 1) / 400 * 400 + a) 1 1)), (5, .int .i64 (1 + (y - 1) / 400 * 400 + a))], []⟩)
                (fun a => 1 + (y - 1) / 400 * 400 + (a : Int) ≤ y) (fun a => (y - (1 + (y - 1) / 400 * 400 + (a : Int))).toNat) 0 (.le (by rw [show (((0 : Nat) : Int)) = 0 from rfl, Int.add_zero, year_base]; simp (disch := first | omega | (simp only [Lx]; omega)) only [go_sem, simprocAttr])) (by omega) ?_
              rintro a R1 ha hR1
              have hbase : 1 ≤ 1 + (y - 1) / 400 * 400 := by omega
              have hst := hR1 (a + 1)
              generalize 1 + (y - 1) / 400 * 400 = y0' at *
              rw [show y0' + ((a + 1 : Nat) : Int) = y0' + (a : Int) + 1 by omega, year_step _ (by omega)] at hst
              have hrng := dayI_rng (y0' + a) 1 1 (by omega) (by omega) (by decide) (by decide) (by decide) (by decide)
              have hrl := rlength_ok (y0' + a) (by omega) (by omega)
              by_cases hlt : y0' + (a : Int) < y
              · have hvar : (if leapB (y0' + (a : Int)) = true then (366 : Int) else 365) ≤ 366 ∧ 0 ≤ (if leapB (y0' + (a : Int)) = true then (366 : Int) else 365) := by split <;> omega
                generalize (if leapB (y0' + (a : Int)) = true then (366 : Int) else 365) = L at *
                generalize dayI (y0' + a) 1 1 = A at *
                simp (disch := first | omega | (simp only [Lx]; omega)) only [go_sem, simprocAttr, nth_c0, nth_cs]
                refine call_ro hrl rfl rfl ?_
                simp (disch := first | omega | (simp only [Lx]; omega)) only [go_sem, simprocAttr, nth_c0, nth_cs]
                exact hst _ (by omega) (by omega) (.le (by simp (disch := first | omega | (simp only [Lx]; omega)) only [go_sem, simprocAttr]))
              · obtain hye : y0' + (a : Int) = y := by omega
                rw [hye] at hrng ⊢
                simp (disch := first | omega | (simp only [Lx]; omega)) only [go_sem, simprocAttr, nth_c0, nth_cs]
                refine vcW_loop hN (fun b : Nat => ⟨[(0, .ro 1 [.int .i64 y, .int .i64 m, .int .i64 d, .int .i64 h, .int .i64 i, .int .i64 s]), (4, .int .i64 (dayI y (1 + b) 1)), (6, .int .i64 (1 + (b : Int)))], []⟩)
                  (fun b => 1 + (b : Int) ≤ m) (fun b => (m - (1 + (b : Int))).toNat) 0 (.le (by rw [show (((0 : Nat) : Int)) = 0 from rfl, Int.add_zero]; simp (disch := first | omega | (simp only [Lx]; omega)) only [go_sem, simprocAttr])) (by omega) ?_
                rintro b R2 hb hR2
                have hst2 := hR2 (b + 1)
                have hrd := rdays_ok y (1 + b) y0 (by omega) (by omega) (by omega)
                have hrng2 := dayI_rng y (1 + b) 1 y0 (by omega) (by omega) (by omega) (by decide) (by decide)
                have hdr := daysI_in y (1 + b)
                by_cases hlt2 : 1 + (b : Int) < m
                · rw [show 1 + ((b + 1 : Nat) : Int) = 1 + (b : Int) + 1 by omega, month_step y _ c1 (by omega) (by omega)] at hst2
                  generalize dayI y (1 + b) 1 = A2 at *
                  generalize daysI y (1 + b) = B2 at *
                  simp (disch := first | omega | (simp only [Lx]; omega)) only [go_sem, simprocAttr, nth_c0, nth_cs]
                  refine call_ro hrd rfl rfl ?_
                  simp (disch := first | omega | (simp only [Lx]; omega)) only [go_sem, simprocAttr, nth_c0, nth_cs]
                  exact hst2 _ (by omega) (by omega) (.le (by simp (disch := first | omega | (simp only [Lx]; omega)) only [go_sem, simprocAttr]))
                · obtain hme : 1 + (b : Int) = m := by omega
                  rw [hme] at hrng2 ⊢
                  rw [day_d y m d] at hR
                  generalize dayI y m 1 = A2 at *
                  simp (disch := first | omega | (simp only [Lx]; omega)) only [go_sem, simprocAttr, nth_c0, nth_cs]
                  have e : 86400 * (A2 + (d - 1)) + 3600 * h + 60 * i + s - 62135596800 = -62135596800 + 86400 * (A2 + (d - 1)) + 3600 * h + 60 * i + s := by omega
                  rw [e]
                  exact hR.wk (h' := []) (r' := .tup [.int .i64 (-62135596800 + 86400 * (A2 + (d - 1)) + 3600 * h + 60 * i + s), .bool true]) (ar' := [.undef]) rfl (.le (by simp (disch := first | omega | (simp only [Lx]; omega)) only [go_sem, simprocAttr])) ⟨rfl, rfl⟩
            · have bad := bad (by simp [c7])
              simp (disch := first | omega | (simp only [Lx]; omega)) only [go_sem, simprocAttr, nth_c0, nth_cs]
              (repeat (first | (with_reducible refine gskip_of ?_) | (with_reducible refine gcskip_of ?_) | (with_reducible refine gopen_of ?_)) <;> simp (disch := first | omega | (simp only [Lx]; omega)) only [go_sem, simprocAttr, nth_c0, nth_cs])
              refine gcyes_of (callT_ro (by simp (disch := first | omega | (simp only [Lx]; omega)) only [go_sem, simprocAttr]) hdy (by simp (disch := first | omega | (simp only [Lx]; omega)) only [go_sem, simprocAttr]) rfl rfl ?_)
              simp (disch := first | omega | (simp only [Lx]; omega)) only [go_sem, simprocAttr, nth_c0, nth_cs]
              (repeat (first | (with_reducible refine gskip_of ?_) | (with_reducible refine gcskip_of ?_) | (with_reducible refine gopen_of ?_)) <;> simp (disch := first | omega | (simp only [Lx]; omega)) only [go_sem, simprocAttr, nth_c0, nth_cs])
              exact bad
          · have bad := bad (by simp [c6])
            simp (disch := first | omega | (simp only [Lx]; omega)) only [go_sem, simprocAttr, nth_c0, nth_cs]
            (repeat (first | (with_reducible refine gskip_of ?_) | (with_reducible refine gcskip_of ?_) | (with_reducible refine gopen_of ?_)) <;> simp (disch := first | omega | (simp only [Lx]; omega)) only [go_sem, simprocAttr, nth_c0, nth_cs])
            refine gcyes_of (callT_ro (by simp (disch := first | omega | (simp only [Lx]; omega)) only [go_sem, simprocAttr]) hdy (by simp (disch := first | omega | (simp only [Lx]; omega)) only [go_sem, simprocAttr]) rfl rfl ?_)
            simp (disch := first | omega | (simp only [Lx]; omega)) only [go_sem, simprocAttr, nth_c0, nth_cs]
            (repeat (first | (with_reducible refine gskip_of ?_) | (with_reducible refine gcskip_of ?_) | (with_reducible refine gopen_of ?_)) <;> simp (disch := first | omega | (simp only [Lx]; omega)) only [go_sem, simprocAttr, nth_c0, nth_cs])
            exact bad
        · have bad := bad (by simp [c5])
          simp (disch := first | omega | (simp only [Lx]; omega)) only [go_sem, simprocAttr, nth_c0, nth_cs]
          (repeat (first | (with_reducible refine gskip_of ?_) | (with_reducible refine gcskip_of ?_) | (with_reducible refine gopen_of ?_)) <;> simp (disch := first | omega | (simp only [Lx]; omega)) only [go_sem, simprocAttr, nth_c0, nth_cs])
          refine gcyes_of (callT_ro (by simp (disch := first | omega | (simp only [Lx]; omega)) only [go_sem, simprocAttr]) hdy (by simp (disch := first | omega | (simp only [Lx]; omega)) only [go_sem, simprocAttr]) rfl rfl ?_)
          simp (disch := first | omega | (simp only [Lx]; omega)) only [go_sem, simprocAttr, nth_c0, nth_cs]
          (repeat (first | (with_reducible refine gskip_of ?_) | (with_reducible refine gcskip_of ?_) | (with_reducible refine gopen_of ?_)) <;> simp (disch := first | omega | (simp only [Lx]; omega)) only [go_sem, simprocAttr, nth_c0, nth_cs])
          exact bad
      · have bad := bad (by simp [c4])
        simp (disch := first | omega | (simp only [Lx]; omega)) only [go_sem, simprocAttr, nth_c0, nth_cs]
        (repeat (first | (with_reducible refine gskip_of ?_) | (with_reducible refine gcskip_of ?_) | (with_reducible refine gopen_of ?_)) <;> simp (disch := first | omega | (simp only [Lx]; omega)) only [go_sem, simprocAttr, nth_c0, nth_cs])
        refine gcyes_of (callT_ro (by simp (disch := first | omega | (simp only [Lx]; omega)) only [go_sem, simprocAttr]) hdy (by simp (disch := first | omega | (simp only [Lx]; omega)) only [go_sem, simprocAttr]) rfl rfl ?_)
        simp (disch := first | omega | (simp only [Lx]; omega)) only [go_sem, simprocAttr, nth_c0, nth_cs]
        (repeat (first | (with_reducible refine gskip_of ?_) | (with_reducible refine gcskip_of ?_) | (with_reducible refine gopen_of ?_)) <;> simp (disch := first | omega | (simp only [Lx]; omega)) only [go_sem, simprocAttr, nth_c0, nth_cs])
        exact bad
    · have bad := bad (by simp [c3])
      simp (disch := first | omega | (simp only [Lx]; omega)) only [go_sem, simprocAttr, nth_c0, nth_cs]
      (repeat (first | (with_reducible refine gskip_of ?_) | (with_reducible refine gcskip_of ?_) | (with_reducible refine gopen_of ?_)) <;> simp (disch := first | omega | (simp only [Lx]; omega)) only [go_sem, simprocAttr, nth_c0, nth_cs])
      exact bad
  · have bad := bad (by simp [c1])
    simp (disch := first | omega | (simp only [Lx]; omega)) only [go_sem, simprocAttr, nth_c0, nth_cs]
    (repeat (first | (with_reducible refine gskip_of ?_) | (with_reducible refine gcskip_of ?_) | (with_reducible refine gopen_of ?_)) <;> simp (disch := first | omega | (simp only [Lx]; omega)) only [go_sem, simprocAttr, nth_c0, nth_cs])
    exact bad
end Go.Proofs.YtgkcbhdpenmogaaDoor.Ps
