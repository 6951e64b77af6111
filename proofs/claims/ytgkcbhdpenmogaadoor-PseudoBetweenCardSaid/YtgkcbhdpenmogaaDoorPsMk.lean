/- Pseudo: a date from the seconds, at the program; digits; Stamp. Pseudo: digits and Stamp, at the program. Pseudo: a number one more, at the program and at the document. Pseudo: Make, at the program. Pseudo: the answers that the document fixes. -/
import Derived.Test.YtgkcbhdpenmogaaDoorPsRd
import Derived.Lib.ItoaMem
import Derived.Lib.AppendIntMem
import Derived.Lib.ItoaLen
set_option linter.all false
namespace Go.Proofs.YtgkcbhdpenmogaaDoor.Ps
open Eng Sv
set_option maxRecDepth 10000
theorem tab_of {P : Program} {name : String} {g : Nat} {k : IntKind} {zs : List Int} {w : World} {cs : Array Value} {t : TypeId} {fz : Nat × Nat} (hg : P.globalNamed name = some g) (hw : w.heap[g]? = some (.cells cs t fz)) (he : cs = (zs.map fun z => Value.int k z).toArray) : Lib.TabIs P w name k zs := by
  unfold Lib.TabIs World.var?
  rw [hg]
  simp only [Option.bind_some, hw, he]
theorem itoa_ok (n : Int) (h0 : -9223372036854775808 ≤ n) (h1 : n ≤ 9223372036854775807) : SpecR Tryd.prog 60 [.int .i64 n] (.str (Lib.itoa n)) := by
  refine spec_belowA rfl rfl (fun w hA => ?_)
  obtain ⟨cs, t, fz, g1, g2⟩ := hA (3, _) (by unfold glist; simp only [List.nil_append, List.cons_append, List.mem_cons]; exact .inl rfl)
  refine (Any.strconv_Itoa Tryd.laysM171 n h0 h1 w (tab_of (by kernel_rfl) g1 g2)).mono ?_
  rintro e w' ⟨rfl, k, os, rfl⟩
  exact ⟨rfl, Lib.below_grow _ _ (Nat.le_refl _) _ _⟩
/- THE DATE -/
def yoeI (o : Int) : Int := (o - o / 1460 + o / 36524 - o / 146096) / 365
def doyI (o : Int) : Int := o - (365 * yoeI o + yoeI o / 4 - yoeI o / 100)
def mpI (y : Int) : Int := (5 * y + 2) / 153
structure Dt where
  y : Int
  m : Int
  d : Int
  h : Int
  i : Int
  s : Int
  w : Int
def dtA (x : Dt) : AV := .agg [.int .i64 x.y, .int .i64 x.m, .int .i64 x.d, .int .i64 x.h, .int .i64 x.i, .int .i64 x.s, .int .i64 x.w]
def dt0 : Dt := ⟨0, 0, 0, 0, 0, 0, 0⟩
/-- the month counted from March, the year that starts there -/
def mY (c : Int) : Int := 400 * (c / 146097) + yoeI (c % 146097)
def mM (c : Int) : Int := mpI (doyI (c % 146097))
def mD (c : Int) : Int := doyI (c % 146097) - (153 * mpI (doyI (c % 146097)) + 2) / 5 + 1
def dateP (n : Int) : Dt :=
  let t := n + 62135596800
  let d := t / 86400
  let r := t % 86400
  let c := d + 306
  if mM c + 3 > 12 then ⟨mY c + 1, mM c + 3 - 12, mD c, r / 3600, r / 60 % 60, r % 60, (d + 1) % 7⟩
  else ⟨mY c, mM c + 3, mD c, r / 3600, r / 60 % 60, r % 60, (d + 1) % 7⟩
def inY (n : Int) : Prop := -62135596800 ≤ n ∧ n ≤ 253402300799
theorem yoe_in (o : Int) (h0 : 0 ≤ o) (h1 : o < 146097) : 0 ≤ yoeI o ∧ yoeI o ≤ 399 := by
  unfold yoeI
  omega
def gI (o : Int) : Int := o - o / 1460 + o / 36524 - o / 146096
theorem g_step (o : Int) (h0 : 0 ≤ o) (h1 : o + 1 < 146097) : gI o ≤ gI (o + 1) := by
  unfold gI
  have a1 : (o + 1) / 1460 ≤ o / 1460 + 1 := by omega
  have a2 : o / 36524 ≤ (o + 1) / 36524 := by omega
  have a3 : (o + 1) / 146096 = o / 146096 ∨ o + 1 = 146096 := by omega
  rcases a3 with h | h
  · omega
  · obtain rfl : o = 146095 := by omega
    decide
theorem g_mono (a : Int) (h0 : 0 ≤ a) : ∀ k : Nat, a + k < 146097 → gI a ≤ gI (a + k)
  | 0, _ => by simp
  | k + 1, h => by
    have h1 := g_mono a h0 k (by omega)
    have h2 := g_step (a + k) (by omega) (by omega)
    have e : a + ((k + 1 : Nat) : Int) = a + k + 1 := by omega
    rw [e]; omega
theorem yoe_mono {a b : Int} (h0 : 0 ≤ a) (h : a ≤ b) (h1 : b < 146097) : yoeI a ≤ yoeI b := by
  have := g_mono a h0 (b - a).toNat (by omega)
  have e : a + ((b - a).toNat : Int) = b := by omega
  rw [e] at this
  show gI a / 365 ≤ gI b / 365
  omega
def stY (y : Int) : Int := 365 * y + y / 4 - y / 100
def yCheck : Bool := (List.range 400).all fun y => (decide (y = 0) || decide (yoeI (stY y - 1) < y)) && (decide (y = 399) || decide ((y : Int) + 1 ≤ yoeI (stY ((y : Int) + 1))))
theorem yCheck_ok : yCheck = true := by decide +kernel
theorem yoe_st (o : Int) (h0 : 0 ≤ o) (h1 : o < 146097) : stY (yoeI o) ≤ o ∧ o ≤ stY (yoeI o) + 365 := by
  obtain ⟨b0, b1⟩ := yoe_in o h0 h1
  obtain ⟨y, hy⟩ : ∃ y : Nat, yoeI o = (y : Int) := ⟨(yoeI o).toNat, by omega⟩
  have hc := yCheck_ok
  unfold yCheck at hc
  rw [List.all_eq_true] at hc
  have := hc y (by rw [List.mem_range]; omega)
  simp only [Bool.and_eq_true, Bool.or_eq_true, decide_eq_true_eq] at this
  obtain ⟨c1, c2⟩ := this
  rw [hy]
  refine ⟨?_, ?_⟩
  · by_cases h : stY y ≤ o
    · exact h
    · rcases c1 with c | c
      · subst c
        unfold stY at h
        omega
      · have := yoe_mono h0 (show o ≤ stY y - 1 by omega) (by unfold stY; omega)
        omega
  · by_cases h : o ≤ stY y + 365
    · exact h
    · rcases c2 with c | c
      · subst c
        unfold stY at h
        omega
      · have hs : stY ((y : Int) + 1) ≤ stY y + 366 := by unfold stY; omega
        have h40 : stY ((y : Int) + 1) ≤ o := by omega
        have h9 : 0 ≤ stY ((y : Int) + 1) := by unfold stY; omega
        have := yoe_mono h9 h40 h1
        omega
theorem doy_in (o : Int) (h0 : 0 ≤ o) (h1 : o < 146097) : 0 ≤ doyI o ∧ doyI o ≤ 365 := by
  have := yoe_st o h0 h1
  unfold stY at this
  unfold doyI
  omega
theorem mp_in (y : Int) (h0 : 0 ≤ y) (h1 : y ≤ 365) : 0 ≤ mpI y ∧ mpI y ≤ 11 ∧ 1 ≤ y - (153 * mpI y + 2) / 5 + 1 ∧ y - (153 * mpI y + 2) / 5 + 1 ≤ 31 := by
  unfold mpI
  omega
/-- the day count of a second in the years -/
theorem c_in {n : Int} (h : inY n) : 306 ≤ (n + 62135596800) / 86400 + 306 ∧ (n + 62135596800) / 86400 + 306 ≤ 3652364 := by
  unfold inY at h
  omega
theorem mY_in {c : Int} (h0 : 306 ≤ c) (h1 : c ≤ 3652364) : 0 ≤ mY c ∧ mY c ≤ 9999 ∧ (mY c = 0 → 10 ≤ mM c) ∧ (mY c = 9999 → mM c ≤ 9) := by
  have o0 : 0 ≤ c % 146097 := by omega
  have o1 : c % 146097 < 146097 := by omega
  have y := yoe_in _ o0 o1
  have d := doy_in _ o0 o1
  have e : c = 146097 * (c / 146097) + c % 146097 := by omega
  unfold mY mM mpI
  unfold doyI at *
  generalize c % 146097 = o at *
  generalize c / 146097 = E at *
  generalize yoeI o = Y at *
  refine ⟨by omega, by omega, fun h => ?_, fun h => ?_⟩
  · have hE : E = 0 := by omega
    have hY : Y = 0 := by omega
    subst hE hY
    omega
  · have hE : E = 24 := by omega
    have hY : Y = 399 := by omega
    subst hE hY
    omega
structure DtOK (x : Dt) : Prop where
  y0 : 1 ≤ x.y
  y1 : x.y ≤ 9999
  m0 : 1 ≤ x.m
  m1 : x.m ≤ 12
  d0 : 1 ≤ x.d
  d1 : x.d ≤ 31
  h0 : 0 ≤ x.h
  h1 : x.h ≤ 23
  i0 : 0 ≤ x.i
  i1 : x.i ≤ 59
  s0 : 0 ≤ x.s
  s1 : x.s ≤ 59
theorem date_in {n : Int} (h : inY n) : DtOK (dateP n) := by
  obtain ⟨h0, h1⟩ := c_in h
  have y := mY_in h0 h1
  have o0 : 0 ≤ ((n + 62135596800) / 86400 + 306) % 146097 := by omega
  have o1 : ((n + 62135596800) / 86400 + 306) % 146097 < 146097 := by omega
  have d := doy_in _ o0 o1
  have m := mp_in _ d.1 d.2
  have hr0 : 0 ≤ (n + 62135596800) % 86400 := by omega
  have hr1 : (n + 62135596800) % 86400 < 86400 := by omega
  unfold dateP
  simp only
  have hM : mM ((n + 62135596800) / 86400 + 306) = mpI (doyI (((n + 62135596800) / 86400 + 306) % 146097)) := rfl
  have hD : mD ((n + 62135596800) / 86400 + 306) = doyI (((n + 62135596800) / 86400 + 306) % 146097) - (153 * mpI (doyI (((n + 62135596800) / 86400 + 306) % 146097)) + 2) / 5 + 1 := rfl
  rw [← hD, ← hM] at m
  generalize mD ((n + 62135596800) / 86400 + 306) = D at *
  generalize mM ((n + 62135596800) / 86400 + 306) = M at *
  generalize mY ((n + 62135596800) / 86400 + 306) = Y at *
  generalize (n + 62135596800) % 86400 = r at *
  split
  · exact ⟨by simp only; omega, by simp only; omega, by simp only; omega, by simp only; omega, m.2.2.1, m.2.2.2, by simp only; omega, by simp only; omega, by simp only; omega, by simp only; omega, by simp only; omega, by simp only; omega⟩
  · exact ⟨by simp only; omega, by simp only; omega, by simp only; omega, by simp only; omega, m.2.2.1, m.2.2.2, by simp only; omega, by simp only; omega, by simp only; omega, by simp only; omega, by simp only; omega, by simp only; omega⟩
theorem yoe_eq (o : Int) : (o - o / 1460 + o / 36524 - o / 146096) / 365 = yoeI o := rfl
theorem doy_eq (o : Int) : o - (365 * yoeI o + yoeI o / 4 - yoeI o / 100) = doyI o := rfl
theorem mp_eq (d : Int) : (5 * d + 2) / 153 = mpI d := rfl
theorem cfrom_ok (n : Int) (h : inY n) : SpecR Tryd.prog 47 [.int .i64 n] (.tup [dtA (dateP n), .int .i64 0]) := by
  refine Cod.cfrom_spec (fun E R hN hR => ?_)
  have hc := c_in h
  have o0 : 0 ≤ ((n + 62135596800) / 86400 + 306) % 146097 := by omega
  have o1 : ((n + 62135596800) / 86400 + 306) % 146097 < 146097 := by omega
  have hy := yoe_in _ o0 o1
  have hd := doy_in _ o0 o1
  have hm := mp_in _ hd.1 hd.2
  have hr0 : 0 ≤ (n + 62135596800) % 86400 := by omega
  have hr1 : (n + 62135596800) % 86400 < 86400 := by omega
  have hdt : dateP n = if mM ((n + 62135596800) / 86400 + 306) + 3 > 12 then ⟨mY ((n + 62135596800) / 86400 + 306) + 1, mM ((n + 62135596800) / 86400 + 306) + 3 - 12, mD ((n + 62135596800) / 86400 + 306), (n + 62135596800) % 86400 / 3600, (n + 62135596800) % 86400 / 60 % 60, (n + 62135596800) % 86400 % 60, ((n + 62135596800) / 86400 + 1) % 7⟩
    else ⟨mY ((n + 62135596800) / 86400 + 306), mM ((n + 62135596800) / 86400 + 306) + 3, mD ((n + 62135596800) / 86400 + 306), (n + 62135596800) % 86400 / 3600, (n + 62135596800) % 86400 / 60 % 60, (n + 62135596800) % 86400 % 60, ((n + 62135596800) / 86400 + 1) % 7⟩ := rfl
  rw [hdt] at hR
  unfold mM mY mD at hR
  unfold inY at h
  have eN : n - -62135596800 = n + 62135596800 := by omega
  have hT : 0 ≤ n + 62135596800 ∧ n + 62135596800 ≤ 315537897599 := by omega
  generalize n + 62135596800 = T at *
  clear hdt
  have hC : 306 ≤ T / 86400 + 306 ∧ T / 86400 + 306 ≤ 3652364 := hc
  obtain ⟨hm0, hm1, hm2, hm3⟩ := hm
  generalize hO : (T / 86400 + 306) % 146097 = O at *
  clear hc
  by_cases h12 : 12 < mpI (doyI O) + 3
  · rw [if_pos h12] at hR
    simp (disch := first | omega | (simp only [Lx]; omega)) only [go_sem, simprocAttr, eN, hO, yoe_eq, doy_eq, mp_eq]
    (repeat (first | (with_reducible refine gskip_of ?_) | (with_reducible refine gcskip_of ?_) | (with_reducible refine gopen_of ?_)) <;> simp (disch := first | omega | (simp only [Lx]; omega)) only [go_sem, simprocAttr, eN, hO, yoe_eq, doy_eq, mp_eq])
    exact hR.ro ⟨rfl, rfl⟩
  · rw [if_neg h12] at hR
    simp (disch := first | omega | (simp only [Lx]; omega)) only [go_sem, simprocAttr, eN, hO, yoe_eq, doy_eq, mp_eq]
    (repeat (first | (with_reducible refine gskip_of ?_) | (with_reducible refine gcskip_of ?_) | (with_reducible refine gopen_of ?_)) <;> simp (disch := first | omega | (simp only [Lx]; omega)) only [go_sem, simprocAttr, eN, hO, yoe_eq, doy_eq, mp_eq])
    exact hR.ro ⟨rfl, rfl⟩
theorem cfrom_no (n : Int) (h0 : -9223372036854775808 ≤ n) (h1 : n ≤ 9223372036854775807) (h : ¬ inY n) : SpecR Tryd.prog 47 [.int .i64 n] (.tup [dtA dt0, .int .i64 1]) := by
  refine Cod.cfrom_spec (fun E R hN hR => ?_)
  unfold inY at h
  by_cases hl : n < -62135596800
  · simp (disch := first | omega | (simp only [Lx]; omega)) only [go_sem, simprocAttr, hl]
    (repeat (first | (with_reducible refine gskip_of ?_) | (with_reducible refine gcskip_of ?_) | (with_reducible refine gopen_of ?_)) <;> simp (disch := first | omega | (simp only [Lx]; omega)) only [go_sem, simprocAttr, hl])
    exact hR.ro ⟨rfl, rfl⟩
  · simp (disch := first | omega | (simp only [Lx]; omega)) only [go_sem, simprocAttr, hl]
    (repeat (first | (with_reducible refine gskip_of ?_) | (with_reducible refine gcskip_of ?_) | (with_reducible refine gopen_of ?_)) <;> simp (disch := first | omega | (simp only [Lx]; omega)) only [go_sem, simprocAttr, hl])
    exact hR.ro ⟨rfl, rfl⟩
end Go.Proofs.YtgkcbhdpenmogaaDoor.Ps
namespace Go.Proofs.YtgkcbhdpenmogaaDoor.Ps
open Eng Sv
set_option maxRecDepth 10000
def padP (k : Nat) (s : Bs) : Bs := List.replicate (k - s.length) 48 ++ s
theorem cdigits_ok (n : Int) (k : Nat) (h0 : 0 ≤ n) (h1 : n ≤ 1000000) (hk : k ≤ 100) : SpecR Tryd.prog 48 [.int .i64 n, .int .i64 (k : Int)] (.str (padP k (Lib.itoa n))) := by
  refine Cod.cdigits_spec (fun E R hN hR => ?_)
  have hl := Lib.itoa_length_le n (by omega) (by omega)
  unfold padP at hR
  simp (disch := first | omega | (simp only [Lx]; omega)) only [go_sem, simprocAttr]
  refine call_ro (itoa_ok n (by omega) (by omega)) rfl rfl ?_
  generalize Lib.itoa n = s at *
  simp (disch := first | omega | (simp only [Lx]; omega)) only [go_sem, simprocAttr]
  refine vcW_loop hN (fun j : Nat => ⟨[(1, .int .i64 (k : Int)), (5, .str (List.replicate j 48 ++ s))], []⟩) (fun j => j ≤ k - s.length) (fun j => k - s.length - j) 0 (.le (by simp (disch := first | omega | (simp only [Lx]; omega)) only [go_sem, simprocAttr])) (by omega) ?_
  rintro j R1 hj hR1
  have hjl : (List.replicate j (48 : UInt8) ++ s).length = j + s.length := by simp
  by_cases hlt : j < k - s.length
  · have hnx := fun st' => hR1 (j + 1) st' (by omega) (by omega)
    rw [List.replicate_succ, List.cons_append] at hnx
    generalize List.replicate j (48 : UInt8) ++ s = x at *
    simp (disch := first | omega | (simp only [Lx]; omega)) only [go_sem, simprocAttr, hjl]
    exact hnx _ (.le (by simp (disch := first | omega | (simp only [Lx]; omega)) only [go_sem, simprocAttr]))
  · obtain rfl : j = k - s.length := by omega
    generalize List.replicate (k - s.length) (48 : UInt8) ++ s = x at *
    simp (disch := first | omega | (simp only [Lx]; omega)) only [go_sem, simprocAttr, hjl]
    exact hR.ro ⟨rfl, rfl⟩
def stampP (x : Dt) : Bs := padP 4 (Lib.itoa x.y) ++ padP 2 (Lib.itoa x.m) ++ padP 2 (Lib.itoa x.d) ++ padP 2 (Lib.itoa x.h) ++ padP 2 (Lib.itoa x.i) ++ padP 2 (Lib.itoa x.s)
theorem pad_len (k : Nat) (n : Int) (h0 : 0 ≤ n) (h1 : n ≤ 1000000) : (padP k (Lib.itoa n)).length ≤ k + 21 := by
  have hl := Lib.itoa_length_le n (by omega) (by omega)
  unfold padP
  simp
  omega
theorem stamp_ok (n : Int) (h : inY n) : SpecR Tryd.prog 27 [.int .i64 n] (.tup [.str (stampP (dateP n)), .int .i64 0]) := by
  refine Cod.stamp_spec (fun E R hN hR => ?_)
  have hf := cfrom_ok n h
  obtain ⟨y0, y1, m0, m1, d0, d1, h0, h1, i0, i1, s0, s1⟩ := date_in h
  unfold dtA at hf
  unfold stampP at hR
  unfold inY at h
  have p1 := pad_len 4 (dateP n).y (by omega) (by omega)
  have p2 := pad_len 2 (dateP n).m (by omega) (by omega)
  have p3 := pad_len 2 (dateP n).d (by omega) (by omega)
  have p4 := pad_len 2 (dateP n).h (by omega) (by omega)
  have p5 := pad_len 2 (dateP n).i (by omega) (by omega)
  have p6 := pad_len 2 (dateP n).s (by omega) (by omega)
  simp (disch := first | omega | (simp only [Lx]; omega)) only [go_sem, simprocAttr]
  refine call_ro hf rfl rfl ?_
  simp (disch := first | omega | (simp only [Lx]; omega)) only [go_sem, simprocAttr]
  refine call_ro (cdigits_ok _ 4 (by omega) (by omega) (by omega)) rfl rfl ?_
  simp (disch := first | omega | (simp only [Lx]; omega)) only [go_sem, simprocAttr]
  refine call_ro (cdigits_ok _ 2 (by omega) (by omega) (by omega)) rfl rfl ?_
  simp (disch := first | omega | (simp only [Lx]; omega)) only [go_sem, simprocAttr]
  refine call_ro (cdigits_ok _ 2 (by omega) (by omega) (by omega)) rfl rfl ?_
  simp (disch := first | omega | (simp only [Lx]; omega)) only [go_sem, simprocAttr]
  refine call_ro (cdigits_ok _ 2 (by omega) (by omega) (by omega)) rfl rfl ?_
  simp (disch := first | omega | (simp only [Lx]; omega)) only [go_sem, simprocAttr]
  refine call_ro (cdigits_ok _ 2 (by omega) (by omega) (by omega)) rfl rfl ?_
  simp (disch := first | omega | (simp only [Lx]; omega)) only [go_sem, simprocAttr]
  refine call_ro (cdigits_ok _ 2 (by omega) (by omega) (by omega)) rfl rfl ?_
  simp (disch := first | omega | (simp only [Lx]; omega)) only [go_sem, simprocAttr]
  exact hR.ro ⟨rfl, rfl⟩
theorem stamp_no (n : Int) (h0 : -9223372036854775808 ≤ n) (h1 : n ≤ 9223372036854775807) (h : ¬ inY n) : SpecR Tryd.prog 27 [.int .i64 n] (.tup [.str [], .int .i64 1]) := by
  refine Cod.stamp_spec (fun E R hN hR => ?_)
  have hf := cfrom_no n h0 h1 h
  unfold dtA dt0 at hf
  simp (disch := first | omega | (simp only [Lx]; omega)) only [go_sem, simprocAttr]
  refine call_ro hf rfl rfl ?_
  simp (disch := first | omega | (simp only [Lx]; omega)) only [go_sem, simprocAttr]
  exact hR.ro ⟨rfl, rfl⟩
end Go.Proofs.YtgkcbhdpenmogaaDoor.Ps
namespace Go.Proofs.YtgkcbhdpenmogaaDoor.Ps
open Eng Sv
set_option maxRecDepth 10000
theorem last9 : ∀ (n : Bs), (∃ p c k, n = p ++ c :: List.replicate k (57 : UInt8) ∧ c ≠ 57) ∨ ∃ k, n = List.replicate k 57
  | [] => .inr ⟨0, rfl⟩
  | x :: r => by
    rcases last9 r with ⟨p, c, k, e, hc⟩ | ⟨k, e⟩
    · exact .inl ⟨x :: p, c, k, by rw [e]; rfl, hc⟩
    · by_cases hx : x = 57
      · exact .inr ⟨k + 1, by rw [e, hx, List.replicate_succ]⟩
      · exact .inl ⟨[], x, k, by rw [e]; rfl, hx⟩
def incR : Bs → Bs
  | [] => [49]
  | c :: r => if c = 57 then 48 :: incR r else (c + 1) :: r
def moreN (n : Bs) : Bs := (incR n.reverse).reverse
theorem incR_rep (c : UInt8) (hc : c ≠ 57) (r : Bs) : ∀ k, incR (List.replicate k 57 ++ c :: r) = List.replicate k 48 ++ (c + 1) :: r
  | 0 => by simp [incR, hc]
  | k + 1 => by rw [List.replicate_succ, List.cons_append, incR, if_pos rfl, incR_rep c hc r k, List.replicate_succ]; rfl
theorem incR_all : ∀ k, incR (List.replicate k 57) = List.replicate k 48 ++ [49]
  | 0 => rfl
  | k + 1 => by rw [List.replicate_succ, incR, if_pos rfl, incR_all k, List.replicate_succ]; rfl
theorem moreN_at (p : Bs) (c : UInt8) (k : Nat) (hc : c ≠ 57) : moreN (p ++ c :: List.replicate k 57) = p ++ (c + 1) :: List.replicate k 48 := by
  unfold moreN
  have e : (p ++ c :: List.replicate k (57 : UInt8)).reverse = List.replicate k 57 ++ c :: p.reverse := by simp
  rw [e, incR_rep c hc]
  simp
theorem moreN_all (k : Nat) : moreN (List.replicate k 57) = 49 :: List.replicate k 48 := by
  unfold moreN
  rw [List.reverse_replicate, incR_all]
  simp
/-- of the places after q, the last j are noughts and the others nines -/
def mid0 (q : Bs) (k j : Nat) : Bs := q ++ (List.replicate (k - j) 57 ++ List.replicate j 48)
theorem mid0_len (q : Bs) {k j : Nat} (h : j ≤ k) : (mid0 q k j).length = q.length + k := by unfold mid0; simp; omega
theorem mid0_at (q : Bs) {k j : Nat} (h : j < k) : (mid0 q k j).getD (q.length + k - j - 1) 0 = 57 := by
  unfold mid0
  rw [List.getD_eq_getElem?_getD, List.getElem?_append_right (by omega), List.getElem?_append_left (by simp; omega), List.getElem?_replicate, if_pos (by omega)]
  rfl
theorem mid0_set (q : Bs) {k j : Nat} (h : j < k) : (mid0 q k j).set (q.length + k - j - 1) 48 = mid0 q k (j + 1) := by
  unfold mid0
  rw [List.set_append_right _ _ (by omega), show q.length + k - j - 1 - q.length = k - j - 1 by omega, List.set_append_left _ _ (by simp; omega)]
  congr 1
  have e : List.replicate (k - j) (57 : UInt8) = List.replicate (k - (j + 1)) 57 ++ [57] := by
    rw [show k - j = k - (j + 1) + 1 by omega, List.replicate_succ']
  rw [e, List.set_append_right _ _ (by simp; omega), List.length_replicate, show k - j - 1 - (k - (j + 1)) = 0 by omega, List.replicate_succ]
  simp
theorem mid0_zero (q : Bs) (k : Nat) : mid0 q k 0 = q ++ List.replicate k 57 := by unfold mid0; simp
theorem mid0_end (q : Bs) (k : Nat) : mid0 q k k = q ++ List.replicate k 48 := by unfold mid0; simp
theorem more_go (q : Bs) (k : Nat) (hl : q.length + k ≤ 1000000) (hq : q = [] ∨ ∃ p c, q = p ++ [c] ∧ c ≠ 57 ∧ c.toNat ≤ 57) :
    SpecR Tryd.prog 28 [.str (q ++ List.replicate k 57)] (.str (moreN (q ++ List.replicate k 57))) := by
  refine Cod.more_spec (fun E R hN hR => ?_)
  have hm0 := mid0_zero q k
  rw [← hm0]
  have hl0 := mid0_len q (Nat.zero_le k)
  simp (disch := first | omega | (simp only [Lx]; omega)) only [go_sem, simprocAttr]
  refine vcW_loop hN (fun j : Nat => ⟨[(3, .sl 60006 0 (q.length + k)), (4, .int .i64 (((q.length + k : Nat) : Int) - j - 1))], [(60006, .arr 1 ((mid0 q k j).map ub))]⟩) (fun j => j ≤ k) (fun j => k - j) 0 (.le ?_) (by omega) ?_
  · simp (disch := first | omega | (simp only [Lx]; omega)) only [go_sem, simprocAttr, hl0]
  rintro j R1 hj hR1
  have hlen := mid0_len q hj
  by_cases hlt : j < k
  · have hat := mid0_at q hlt
    have hst := mid0_set q hlt
    have e57 : ((UInt8.toNat 57 : Nat) : Int) = 57 := rfl
    have e48 : AV.int .u8 48 = ub 48 := rfl
    have hnx := fun st' => hR1 (j + 1) st' (by omega) (by omega)
    rw [← hst] at hnx
    have eI : (((q.length + k : Nat) : Int) - ((j + 1 : Nat) : Int) - 1) = ((q.length + k : Nat) : Int) - (j : Int) - 1 - 1 := by omega
    rw [eI] at hnx
    have eN : (((q.length + k : Nat) : Int) - (j : Int) - 1).toNat = q.length + k - j - 1 := by omega
    generalize mid0 q k j = L at *
    have hI : q.length + k - j - 1 < L.length := by omega
    have hIi : ((q.length + k : Nat) : Int) - (j : Int) - 1 = ((q.length + k - j - 1 : Nat) : Int) := by omega
    rw [hIi] at hnx eN ⊢
    generalize q.length + k - j - 1 = I at *
    simp (disch := first | omega | (simp only [Lx]; omega)) only [go_sem, simprocAttr, hat, e57, eN]
    refine hnx _ (.le ?_)
    simp (disch := first | omega | (simp only [Lx]; omega)) only [go_sem, simprocAttr, e48, set_ub]
  · obtain rfl : j = k := by omega
    rcases hq with rfl | ⟨p, c, rfl, hc, hc1⟩
    · have hmm : moreN ([] ++ List.replicate j 57) = 49 :: mid0 [] j j := by rw [mid0_end, List.nil_append, moreN_all]; rfl
      rw [hmm] at hR
      have eI : (((([] : Bs).length + j : Nat) : Int) - (j : Int) - 1) = -1 := by simp
      rw [eI]
      generalize mid0 [] j j = L at *
      simp (disch := first | omega | (simp only [Lx]; omega)) only [go_sem, simprocAttr]
      exact hR.ro ⟨rfl, rfl⟩
    · have hmm : moreN (p ++ [c] ++ List.replicate j 57) = p ++ (c + 1) :: List.replicate j 48 := by rw [List.append_assoc]; exact moreN_at p c j hc
      rw [hmm] at hR
      have hend : (mid0 (p ++ [c]) j j).getD p.length 0 = c := by
        rw [mid0_end, List.append_assoc, List.getD_eq_getElem?_getD, List.getElem?_append_right (Nat.le_refl _)]
        simp
      have hlast : (mid0 (p ++ [c]) j j).set p.length (c + 1) = p ++ (c + 1) :: List.replicate j 48 := by
        rw [mid0_end, List.append_assoc, List.set_append_right _ _ (Nat.le_refl _), Nat.sub_self]; rfl
      have eI : ((((p ++ [c]).length + j : Nat) : Int) - (j : Int) - 1) = (p.length : Int) := by simp
      have hql : (p ++ [c]).length = p.length + 1 := by simp
      rw [eI]
      rw [hql] at hlen hl0 hl ⊢
      have hlt57 : c.toNat < 57 := by
        rcases Nat.lt_or_ge c.toNat 57 with h | h
        · exact h
        · exact absurd (UInt8.toNat.inj (by show c.toNat = 57; omega)) hc
      have hcp : AV.int .u8 ((c.toNat : Int) + 1) = ub (c + 1) := by
        have : (c + 1).toNat = c.toNat + 1 := by rw [UInt8.toNat_add]; show (c.toNat + 1) % 256 = _; omega
        unfold ub
        rw [this]; congr 1
      generalize p ++ (c + 1) :: List.replicate j 48 = X at *
      generalize mid0 (p ++ [c]) j j = L at *
      have hset : (L.map ub).set p.length (.int .u8 ((c.toNat : Int) + 1)) = X.map ub := by rw [hcp, set_ub, hlast]
      have hXl : X.length = p.length + 1 + j := by rw [← hlast, List.length_set]; exact hlen
      simp (disch := first | omega | (simp only [Lx]; omega)) only [go_sem, simprocAttr, hend, hset, hXl]
      exact hR.ro ⟨rfl, rfl⟩
theorem rmore_go (q : Bs) (k : Nat) (hl : q.length + k ≤ 1000000) (hq : q = [] ∨ ∃ p c, q = p ++ [c] ∧ c ≠ 57 ∧ c.toNat ≤ 57) :
    SpecR Tryd.prog 12 [.str (q ++ List.replicate k 57)] (.str (moreN (q ++ List.replicate k 57))) := by
  refine Cod.rmore_spec (fun E R hN hR => ?_)
  have hat9 : ∀ j, j < k → (q ++ List.replicate k (57 : UInt8)).getD (q.length + k - j - 1) 0 = 57 := by
    intro j h
    rw [List.getD_eq_getElem?_getD, List.getElem?_append_right (by omega), List.getElem?_replicate, if_pos (by omega)]
    rfl
  have hlq : (q ++ List.replicate k (57 : UInt8)).length = q.length + k := by simp
  have htq : (q ++ List.replicate k (57 : UInt8)).take q.length = q := by simp
  have hgq : ∀ p c, q = p ++ [c] → (q ++ List.replicate k (57 : UInt8)).getD p.length 0 = c ∧ (q ++ List.replicate k (57 : UInt8)).take p.length = p := by
    rintro p c rfl
    refine ⟨?_, by simp⟩
    rw [List.append_assoc, List.getD_eq_getElem?_getD, List.getElem?_append_right (Nat.le_refl _)]
    simp
  have hq' : (q = [] ∧ moreN (q ++ List.replicate k 57) = 49 :: List.replicate k 48) ∨ ∃ p c, q = p ++ [c] ∧ c ≠ 57 ∧ c.toNat ≤ 57 ∧ moreN (q ++ List.replicate k 57) = p ++ (c + 1) :: List.replicate k 48 := by
    rcases hq with rfl | ⟨p, c, rfl, hc, hc1⟩
    · exact .inl ⟨rfl, by rw [List.nil_append, moreN_all]⟩
    · exact .inr ⟨p, c, rfl, hc, hc1, by rw [List.append_assoc]; exact moreN_at p c k hc⟩
  generalize moreN (q ++ List.replicate k 57) = X at *
  generalize q ++ List.replicate k 57 = L at *
  simp (disch := first | omega | (simp only [Lx]; omega)) only [go_sem, simprocAttr]
  refine vcW_loop hN (fun j : Nat => ⟨[(0, .str L), (3, .int .i64 ((q.length + k - j : Nat) : Int))], []⟩) (fun j => j ≤ k) (fun j => k - j) 0 (.le ?_) (by omega) ?_
  · simp (disch := first | omega | (simp only [Lx]; omega)) only [go_sem, simprocAttr, hlq]
  rintro j R1 hj hR1
  have eN : (((q.length + k - j : Nat) : Int) - 1).toNat = q.length + k - j - 1 := by omega
  by_cases hlt : j < k
  · have hat := hat9 j hlt
    have hate : (((L.getD (q.length + k - j - 1) 0).toNat : Nat) : Int) = 57 := by rw [hat]; rfl
    have hnx := fun st' => hR1 (j + 1) st' (by omega) (by omega)
    have eI : ((q.length + k - (j + 1) : Nat) : Int) = ((q.length + k - j : Nat) : Int) - 1 := by omega
    rw [eI] at hnx
    have hI : ((q.length + k - j : Nat) : Int) - 1 < L.length := by omega
    have hI0 : 1 ≤ ((q.length + k - j : Nat) : Int) := by omega
    have hI2 : ((q.length + k - j : Nat) : Int) ≤ 1000001 := by omega
    generalize ((q.length + k - j : Nat) : Int) = I at *
    simp (disch := first | omega | (simp only [Lx]; omega)) only [go_sem, simprocAttr, eN, hate]
    (repeat (first | (with_reducible refine gskip_of ?_) | (with_reducible refine gcskip_of ?_) | (with_reducible refine gopen_of ?_)) <;> simp (disch := first | omega | (simp only [Lx]; omega)) only [go_sem, simprocAttr, eN, hate])
    exact hnx _ (.le (by simp (disch := first | omega | (simp only [Lx]; omega)) only [go_sem, simprocAttr]))
  · obtain rfl : j = k := by omega
    have eI : ((q.length + j - j : Nat) : Int) = (q.length : Int) := by omega
    rw [eI]
    rcases hq' with ⟨rfl, hX⟩ | ⟨p, c, rfl, hc, hc1, hX⟩
    · rw [hX] at hR
      simp only [List.length_nil] at *
      simp (disch := first | omega | (simp only [Lx]; omega)) only [go_sem, simprocAttr]
      (repeat (first | (with_reducible refine gskip_of ?_) | (with_reducible refine gcskip_of ?_) | (with_reducible refine gopen_of ?_)) <;> simp (disch := first | omega | (simp only [Lx]; omega)) only [go_sem, simprocAttr])
      refine vcW_loop hN (fun i : Nat => ⟨[(0, .str L), (3, .int .i64 0), (4, .str (List.replicate i 48)), (5, .int .i64 (i : Int))], []⟩) (fun i => i ≤ j) (fun i => j - i) 0 (.le (by simp (disch := first | omega | (simp only [Lx]; omega)) only [go_sem, simprocAttr])) (by omega) ?_
      rintro i R2 hi hR2
      by_cases hlt2 : i < j
      · have hnx := fun st' => hR2 (i + 1) st' (by omega) (by omega)
        rw [List.replicate_succ', show ((i + 1 : Nat) : Int) = (i : Int) + 1 by omega] at hnx
        simp (disch := first | omega | (simp only [Lx]; omega)) only [go_sem, simprocAttr]
        exact hnx _ (.le (by simp (disch := first | omega | (simp only [Lx]; omega)) only [go_sem, simprocAttr]))
      · obtain rfl : i = j := by omega
        simp (disch := first | omega | (simp only [Lx]; omega)) only [go_sem, simprocAttr]
        exact hR.ro ⟨rfl, rfl⟩
    · rw [hX] at hR
      obtain ⟨hg, ht⟩ := hgq p c rfl
      have hql : (p ++ [c]).length = p.length + 1 := by simp
      rw [hql] at hlq hl ⊢
      have hlt57 : c.toNat < 57 := by
        rcases Nat.lt_or_ge c.toNat 57 with h | h
        · exact h
        · exact absurd (UInt8.toNat.inj (by show c.toNat = 57; omega)) hc
      have hc57 : ¬ ((c.toNat : Int) = 57) := by omega
      have hcp : AV.int .u8 ((c.toNat : Int) + 1) = ub (c + 1) := by
        have : (c + 1).toNat = c.toNat + 1 := by rw [UInt8.toNat_add]; show (c.toNat + 1) % 256 = _; omega
        unfold ub
        rw [this]; congr 1
      have hab : allB [AV.int .u8 ((c.toNat : Int) + 1)] = true := by rw [hcp]; exact allB_ub (xs := [c + 1])
      have hby : bytesOf [AV.int .u8 ((c.toNat : Int) + 1)] = [c + 1] := by rw [hcp]; exact bytesOf_ub (xs := [c + 1])
      have hXX : p ++ [c + 1] ++ List.replicate j 48 = p ++ (c + 1) :: List.replicate j 48 := by simp
      rw [← hXX] at hR
      have eP : (((p.length + 1 : Nat) : Int) - 1).toNat = p.length := by omega
      have eP2 : (((p.length : Int) + 1) - 1).toNat = p.length := by omega
      simp (disch := first | omega | (simp only [Lx]; omega)) only [go_sem, simprocAttr, eP, eP2, hg]
      (repeat (first | (with_reducible refine gskip_of ?_) | (with_reducible refine gcskip_of ?_) | (with_reducible refine gopen_of ?_)) <;> simp (disch := first | omega | (simp only [Lx]; omega)) only [go_sem, simprocAttr, eP, eP2, hg, hc57])
      refine vcW_loop hN (fun i : Nat => ⟨[(0, .str L), (3, .int .i64 ((p.length : Int) + 1)), (4, .str (List.replicate i 48)), (5, .int .i64 ((p.length : Int) + 1 + i))], []⟩) (fun i => i ≤ j) (fun i => j - i) 0 (.le (by simp (disch := first | omega | (simp only [Lx]; omega)) only [go_sem, simprocAttr])) (by omega) ?_
      rintro i R2 hi hR2
      by_cases hlt2 : i < j
      · have hnx := fun st' => hR2 (i + 1) st' (by omega) (by omega)
        rw [List.replicate_succ', show ((p.length : Int) + 1 + ((i + 1 : Nat) : Int)) = (p.length : Int) + 1 + (i : Int) + 1 by omega] at hnx
        simp (disch := first | omega | (simp only [Lx]; omega)) only [go_sem, simprocAttr]
        exact hnx _ (.le (by simp (disch := first | omega | (simp only [Lx]; omega)) only [go_sem, simprocAttr]))
      · obtain rfl : i = j := by omega
        simp (disch := first | omega | (simp only [Lx]; omega)) only [go_sem, simprocAttr, eP, eP2, hg, ht, hab, hby]
        exact hR.ro ⟨rfl, rfl⟩
theorem q9 (n : Bs) (h : n.all isD = true) : ∃ q k, n = q ++ List.replicate k (57 : UInt8) ∧ (q = [] ∨ ∃ p c, q = p ++ [c] ∧ c ≠ 57 ∧ c.toNat ≤ 57) := by
  rcases last9 n with ⟨p, c, k, e, hc⟩ | ⟨k, e⟩
  · refine ⟨p ++ [c], k, by rw [e]; simp, .inr ⟨p, c, rfl, hc, ?_⟩⟩
    rw [List.all_eq_true] at h
    have := h c (by rw [e]; simp)
    unfold isD at this
    simp only [decide_eq_true_eq] at this
    exact this.2
  · exact ⟨[], k, by rw [e]; rfl, .inl rfl⟩
theorem more_ok (n : Bs) (h : n.all isD = true) (hl : n.length ≤ 1000000) : SpecR Tryd.prog 28 [.str n] (.str (moreN n)) := by
  obtain ⟨q, k, rfl, hq⟩ := q9 n h
  exact more_go q k (by simpa using hl) hq
theorem rmore_ok (n : Bs) (h : n.all isD = true) (hl : n.length ≤ 1000000) : SpecR Tryd.prog 12 [.str n] (.str (moreN n)) := by
  obtain ⟨q, k, rfl, hq⟩ := q9 n h
  exact rmore_go q k (by simpa using hl) hq
end Go.Proofs.YtgkcbhdpenmogaaDoor.Ps
namespace Go.Proofs.YtgkcbhdpenmogaaDoor.Ps
open Eng Sv
set_option maxRecDepth 10000
instance (n : Int) : Decidable (inY n) := by unfold inY; infer_instance
def finP (x : Bs) : Bs × Int := if 100 < x.length then ([], 2) else (x, 0)
def tailP (t : Int) (r : Bs) : Bs := stampP (dateP t) ++ [45] ++ r
def coreP (v : Ver) (t : Int) (r : Bs) : Bs := if v.pr = [] then headP v ++ moreN v.pa ++ [45, 48, 46] ++ tailP t r else headP v ++ v.pa ++ [45] ++ v.pr ++ [46, 48, 46] ++ tailP t r
def makeP (m o : Bs) (t : Int) (r : Bs) : Bs × Int :=
  if ¬ (inY t ∧ revP r = true) then ([], 1)
  else if o = [] then match parseP m with
    | none => ([], 4)
    | some v => if [118] ++ v.mj = m then finP (m ++ [46, 48, 46, 48, 45] ++ tailP t r) else ([], 4)
  else match parseP o with
    | none => ([], 4)
    | some v => finP (coreP v t r ++ bldP v)
def makeA (x : Bs × Int) : AV := .tup [.str x.1, .int .i64 x.2]
theorem stamp_len {t : Int} (h : inY t) : (stampP (dateP t)).length ≤ 140 := by
  obtain ⟨y0, y1, m0, m1, d0, d1, h0, h1, i0, i1, s0, s1⟩ := date_in h
  have p1 := pad_len 4 (dateP t).y (by omega) (by omega)
  have p2 := pad_len 2 (dateP t).m (by omega) (by omega)
  have p3 := pad_len 2 (dateP t).d (by omega) (by omega)
  have p4 := pad_len 2 (dateP t).h (by omega) (by omega)
  have p5 := pad_len 2 (dateP t).i (by omega) (by omega)
  have p6 := pad_len 2 (dateP t).s (by omega) (by omega)
  unfold stampP
  simp only [List.length_append]
  omega
theorem inc_len : ∀ n : Bs, (incR n).length ≤ n.length + 1
  | [] => by simp [incR]
  | c :: r => by
    rw [incR]
    split
    · have := inc_len r; simp; omega
    · simp
theorem moreN_len (n : Bs) : (moreN n).length ≤ n.length + 1 := by
  unfold moreN
  have := inc_len n.reverse
  simpa using this
theorem pmake_ok (m o : Bs) (t : Int) (r : Bs) (hm : m.length ≤ 140737488351232) (ho : o.length ≤ 140737488351232) (hr : r.length ≤ 140737488351232) (t0 : -9223372036854775808 ≤ t) (t1 : t ≤ 9223372036854775807) :
    SpecR Tryd.prog 10 [.str m, .str o, .int .i64 t, .str r] (makeA (makeP m o t r)) := by
  refine Cod.pmake_spec (fun E R hN hR => ?_)
  have hrv := rev_ok r hr
  by_cases hy : inY t
  · have hst := stamp_ok t hy
    have hsl := stamp_len hy
    cases hv : revP r with
    | true =>
      have hrl := rev_len hv
      have e0 : ¬ ¬ (inY t ∧ revP r = true) := fun h => h ⟨hy, hv⟩
      unfold makeP coreP at hR
      rw [if_neg e0] at hR
      rw [hv] at hrv
      have htl : (tailP t r).length = (stampP (dateP t)).length + 1 + r.length := by unfold tailP; simp only [List.length_append, List.length_cons, List.length_nil]
      have hta : stampP (dateP t) ++ [45] ++ r = tailP t r := rfl
      simp (disch := first | omega | (simp only [Lx]; omega)) only [go_sem, simprocAttr]
      refine call_ro hst rfl rfl ?_
      generalize stampP (dateP t) = S at *
      simp (disch := first | omega | (simp only [Lx]; omega)) only [go_sem, simprocAttr]
      (repeat (first | (with_reducible refine gskip_of ?_) | (with_reducible refine gcskip_of ?_) | (with_reducible refine gopen_of ?_)) <;> simp (disch := first | omega | (simp only [Lx]; omega)) only [go_sem, simprocAttr])
      refine gcyes_of (callT_ro (by simp (disch := first | omega | (simp only [Lx]; omega)) only [go_sem, simprocAttr]) hrv (by simp (disch := first | omega | (simp only [Lx]; omega)) only [go_sem, simprocAttr]) rfl rfl ?_)
      simp (disch := first | omega | (simp only [Lx]; omega)) only [go_sem, simprocAttr, hta]
      generalize tailP t r = T at *
      by_cases ho0 : o = []
      · rw [if_pos ho0] at hR
        have hp := parse_ok m (by omega)
        cases hpm : parseP m with
        | none =>
          rw [hpm] at hp hR
          simp only [parseA, verA, noV, Option.getD_none, Option.isSome_none] at hp
          simp (disch := first | omega | (simp only [Lx]; omega)) only [go_sem, simprocAttr, ho0, Cod.pmake_jn]
          refine call_ro hp rfl rfl ?_
          simp (disch := first | omega | (simp only [Lx]; omega)) only [go_sem, simprocAttr]
          (repeat (first | (with_reducible refine gskip_of ?_) | (with_reducible refine gcskip_of ?_) | (with_reducible refine gopen_of ?_)) <;> simp (disch := first | omega | (simp only [Lx]; omega)) only [go_sem, simprocAttr])
          exact hR.ro ⟨rfl, rfl⟩
        | some v =>
          rw [hpm] at hp hR
          simp only at hR
          obtain ⟨hml, a1, a2, a3, a4, a5⟩ := parseP_len hpm
          simp only [parseA, verA, Option.getD_some, Option.isSome_some] at hp
          simp (disch := first | omega | (simp only [Lx]; omega)) only [go_sem, simprocAttr, ho0, Cod.pmake_jn]
          refine call_ro hp rfl rfl ?_
          by_cases hmj : [118] ++ v.mj = m
          · rw [if_pos hmj] at hR
            unfold finP at hR
            have hxl : (m ++ [46, 48, 46, 48, 45] ++ T).length = m.length + 5 + T.length := by simp only [List.length_append, List.length_cons, List.length_nil]
            rw [hxl] at hR
            have hmj' := hmj
            simp only [List.cons_append, List.nil_append] at hmj'
            by_cases h100 : 100 < m.length + 5 + T.length
            · rw [if_pos h100] at hR
              simp (disch := first | omega | (simp only [Lx]; omega)) only [go_sem, simprocAttr, hmj, hmj']
              (repeat (first | (with_reducible refine gskip_of ?_) | (with_reducible refine gcskip_of ?_) | (with_reducible refine gopen_of ?_)) <;> simp (disch := first | omega | (simp only [Lx]; omega)) only [go_sem, simprocAttr, hmj, hmj'])
              refine vcW_mid hN ?_
              simp (disch := first | omega | (simp only [Lx]; omega)) only [go_sem, simprocAttr]
              exact hR.ro ⟨rfl, rfl⟩
            · rw [if_neg h100] at hR
              simp (disch := first | omega | (simp only [Lx]; omega)) only [go_sem, simprocAttr, hmj, hmj']
              (repeat (first | (with_reducible refine gskip_of ?_) | (with_reducible refine gcskip_of ?_) | (with_reducible refine gopen_of ?_)) <;> simp (disch := first | omega | (simp only [Lx]; omega)) only [go_sem, simprocAttr, hmj, hmj'])
              refine vcW_mid hN ?_
              simp (disch := first | omega | (simp only [Lx]; omega)) only [go_sem, simprocAttr]
              exact hR.ro ⟨rfl, rfl⟩
          · rw [if_neg hmj] at hR
            have hmj' := hmj
            simp only [List.cons_append, List.nil_append] at hmj'
            simp (disch := first | omega | (simp only [Lx]; omega)) only [go_sem, simprocAttr, hmj, hmj']
            (repeat (first | (with_reducible refine gskip_of ?_) | (with_reducible refine gcskip_of ?_) | (with_reducible refine gopen_of ?_)) <;> simp (disch := first | omega | (simp only [Lx]; omega)) only [go_sem, simprocAttr, hmj, hmj'])
            exact hR.ro ⟨rfl, rfl⟩
      · rw [if_neg ho0] at hR
        have hp := parse_ok o (by omega)
        cases hpm : parseP o with
        | none =>
          rw [hpm] at hp hR
          simp only [parseA, verA, noV, Option.getD_none, Option.isSome_none] at hp
          simp (disch := first | omega | (simp only [Lx]; omega)) only [go_sem, simprocAttr, ho0, Cod.pmake_jn]
          refine call_ro hp rfl rfl ?_
          simp (disch := first | omega | (simp only [Lx]; omega)) only [go_sem, simprocAttr]
          exact hR.ro ⟨rfl, rfl⟩
        | some v =>
          rw [hpm] at hp hR
          simp only at hR
          obtain ⟨hml, a1, a2, a3, a4, a5⟩ := parseP_len hpm
          have vok := (parseP_ok hpm).1
          simp only [parseA, verA, Option.getD_some, Option.isSome_some] at hp
          have hbl : (bldP v).length ≤ 102 := by unfold bldP; split <;> simp; omega
          have hpb := pbuild_ok v (by omega)
          unfold verA at hpb
          have hpa := vok.pa
          have hmo := more_ok v.pa hpa.1 (by omega)
          have hmol := moreN_len v.pa
          have hhl : (headP v).length = v.mj.length + v.mi.length + 3 := by unfold headP; simp; omega
          simp (disch := first | omega | (simp only [Lx]; omega)) only [go_sem, simprocAttr, ho0, Cod.pmake_jn]
          refine call_ro hp rfl rfl ?_
          unfold finP at hR
          by_cases hpr : v.pr = []
          · rw [if_pos hpr] at hR
            have hxl : (headP v ++ moreN v.pa ++ [45, 48, 46] ++ T ++ bldP v).length = v.mj.length + v.mi.length + 3 + (moreN v.pa).length + 3 + T.length + (bldP v).length := by
              simp only [List.length_append, List.length_cons, List.length_nil, hhl]
            rw [hxl] at hR
            unfold headP at hR
            rw [hpr] at hpb
            by_cases h100 : 100 < v.mj.length + v.mi.length + 3 + (moreN v.pa).length + 3 + T.length + (bldP v).length
            · rw [if_pos h100] at hR
              simp (disch := first | omega | (simp only [Lx]; omega)) only [go_sem, simprocAttr, hpr]
              refine call_ro hmo rfl rfl ?_
              simp (disch := first | omega | (simp only [Lx]; omega)) only [go_sem, simprocAttr]
              refine call_ro hpb rfl rfl ?_
              simp (disch := first | omega | (simp only [Lx]; omega)) only [go_sem, simprocAttr]
              refine vcW_mid hN ?_
              simp (disch := first | omega | (simp only [Lx]; omega)) only [go_sem, simprocAttr]
              exact hR.ro ⟨rfl, rfl⟩
            · rw [if_neg h100] at hR
              simp (disch := first | omega | (simp only [Lx]; omega)) only [go_sem, simprocAttr, hpr]
              refine call_ro hmo rfl rfl ?_
              simp (disch := first | omega | (simp only [Lx]; omega)) only [go_sem, simprocAttr]
              refine call_ro hpb rfl rfl ?_
              simp (disch := first | omega | (simp only [Lx]; omega)) only [go_sem, simprocAttr]
              refine vcW_mid hN ?_
              simp (disch := first | omega | (simp only [Lx]; omega)) only [go_sem, simprocAttr]
              exact hR.ro ⟨rfl, rfl⟩
          · rw [if_neg hpr] at hR
            have hxl : (headP v ++ v.pa ++ [45] ++ v.pr ++ [46, 48, 46] ++ T ++ bldP v).length = v.mj.length + v.mi.length + 3 + v.pa.length + 1 + v.pr.length + 3 + T.length + (bldP v).length := by
              simp only [List.length_append, List.length_cons, List.length_nil, hhl]
            rw [hxl] at hR
            unfold headP at hR
            by_cases h100 : 100 < v.mj.length + v.mi.length + 3 + v.pa.length + 1 + v.pr.length + 3 + T.length + (bldP v).length
            · rw [if_pos h100] at hR
              simp (disch := first | omega | (simp only [Lx]; omega)) only [go_sem, simprocAttr, hpr]
              refine call_ro hpb rfl rfl ?_
              simp (disch := first | omega | (simp only [Lx]; omega)) only [go_sem, simprocAttr]
              refine vcW_mid hN ?_
              simp (disch := first | omega | (simp only [Lx]; omega)) only [go_sem, simprocAttr]
              exact hR.ro ⟨rfl, rfl⟩
            · rw [if_neg h100] at hR
              simp (disch := first | omega | (simp only [Lx]; omega)) only [go_sem, simprocAttr, hpr]
              refine call_ro hpb rfl rfl ?_
              simp (disch := first | omega | (simp only [Lx]; omega)) only [go_sem, simprocAttr]
              refine vcW_mid hN ?_
              simp (disch := first | omega | (simp only [Lx]; omega)) only [go_sem, simprocAttr]
              exact hR.ro ⟨rfl, rfl⟩
    | false =>
      have hmk : makeP m o t r = ([], 1) := by unfold makeP; rw [if_pos (fun h => by rw [hv] at h; exact absurd h.2 (by decide))]
      rw [hmk] at hR
      rw [hv] at hrv
      simp (disch := first | omega | (simp only [Lx]; omega)) only [go_sem, simprocAttr]
      refine call_ro hst rfl rfl ?_
      simp (disch := first | omega | (simp only [Lx]; omega)) only [go_sem, simprocAttr]
      (repeat (first | (with_reducible refine gskip_of ?_) | (with_reducible refine gcskip_of ?_) | (with_reducible refine gopen_of ?_)) <;> simp (disch := first | omega | (simp only [Lx]; omega)) only [go_sem, simprocAttr])
      refine gcyes_of (callT_ro (by simp (disch := first | omega | (simp only [Lx]; omega)) only [go_sem, simprocAttr]) hrv (by simp (disch := first | omega | (simp only [Lx]; omega)) only [go_sem, simprocAttr]) rfl rfl ?_)
      simp (disch := first | omega | (simp only [Lx]; omega)) only [go_sem, simprocAttr]
      exact hR.ro ⟨rfl, rfl⟩
  · have hmk : makeP m o t r = ([], 1) := by unfold makeP; rw [if_pos (fun h => hy h.1)]
    rw [hmk] at hR
    simp (disch := first | omega | (simp only [Lx]; omega)) only [go_sem, simprocAttr]
    refine call_ro (stamp_no t t0 t1 hy) rfl rfl ?_
    simp (disch := first | omega | (simp only [Lx]; omega)) only [go_sem, simprocAttr]
    (repeat (first | (with_reducible refine gskip_of ?_) | (with_reducible refine gcskip_of ?_) | (with_reducible refine gopen_of ?_)) <;> simp (disch := first | omega | (simp only [Lx]; omega)) only [go_sem, simprocAttr])
    exact hR.ro ⟨rfl, rfl⟩
end Go.Proofs.YtgkcbhdpenmogaaDoor.Ps
namespace Go.Proofs.YtgkcbhdpenmogaaDoor.Ps
open Eng Sv
set_option maxRecDepth 10000
def oldB : Bs := [118, 50, 46, 48, 46, 57, 43, 105, 110, 99, 111, 109, 112, 97, 116, 105, 98, 108, 101]
def revB : Bs := [97, 98, 99, 100, 101, 102, 97, 98, 99, 100, 101, 102]
def newB : Bs := [118, 50, 46, 48, 46, 49, 48, 45, 48, 46, 50, 48, 48, 54, 48, 49, 48, 50, 49, 53, 48, 52, 48, 53, 45, 97, 98, 99, 100, 101, 102, 97, 98, 99, 100, 101, 102, 43, 105, 110, 99, 111, 109, 112, 97, 116, 105, 98, 108, 101]
theorem awk_new : pseudoE newB = 0 ∧ (pseudoP newB).base = oldB ∧ (pseudoP newB).time = 1136214245 ∧ (pseudoP newB).rev = revB := by decide +kernel
theorem awk_no : pseudoE [118, 49, 46, 50, 46, 51] = 3 := by decide +kernel
theorem awk_make : makeP [] oldB 1136214245 revB = (newB, 0) := by decide +kernel
theorem lawake_ok : SpecR Tryd.prog 8 [] (.bool true) := by
  refine Cod.lawake_spec (fun E R hN hR => ?_)
  have h1 := pmake_ok [] oldB 1136214245 revB (by decide) (by decide) (by decide) (by decide) (by decide)
  rw [awk_make] at h1
  have h2 := pparse_ok newB (by decide)
  obtain ⟨n1, n2, n3, n4⟩ := awk_new
  unfold ptA at h2
  rw [n1, n2, n3, n4] at h2
  have h3 := pis_ok [118, 49, 46, 50, 46, 51] (by decide)
  rw [awk_no] at h3
  unfold makeA at h1
  unfold oldB revB newB at *
  simp (disch := first | omega | (simp only [Lx]; omega)) only [go_sem, simprocAttr]
  refine call_ro h1 rfl rfl ?_
  simp (disch := first | omega | (simp only [Lx]; omega)) only [go_sem, simprocAttr]
  refine call_ro h2 rfl rfl ?_
  simp (disch := first | omega | (simp only [Lx]; omega)) only [go_sem, simprocAttr]
  (repeat (first | (with_reducible refine gskip_of ?_) | (with_reducible refine gcskip_of ?_) | (with_reducible refine gopen_of ?_)) <;> simp (disch := first | omega | (simp only [Lx]; omega)) only [go_sem, simprocAttr])
  refine gcyes_of (callT_ro (by simp (disch := first | omega | (simp only [Lx]; omega)) only [go_sem, simprocAttr]) h3 (by simp (disch := first | omega | (simp only [Lx]; omega)) only [go_sem, simprocAttr]) rfl rfl ?_)
  simp (disch := first | omega | (simp only [Lx]; omega)) only [go_sem, simprocAttr]
  exact hR.ro ⟨rfl, rfl⟩
theorem lreads_ok (s : Bs) (hs : s.length ≤ 140737488351232) : SpecR Tryd.prog 3 [.str s] (.bool true) := by
  refine Cod.lreads_spec (fun E R hN hR => ?_)
  have h1 := pparse_ok s hs
  have h2 := rpparse_ok s hs
  have h3 := pis_ok s hs
  have h4 := lawake_ok
  unfold ptA at h1
  unfold ptT at h2
  have he : pseudoE s = 0 ∨ pseudoE s = 3 ∨ pseudoE s = 4 := by
    unfold pseudoE
    split
    · exact .inr (.inr rfl)
    · split
      · exact .inr (.inr rfl)
      · split
        · exact .inl rfl
        · exact .inr (.inl rfl)
  simp (disch := first | omega | (simp only [Lx]; omega)) only [go_sem, simprocAttr]
  refine call_ro h1 rfl rfl ?_
  simp (disch := first | omega | (simp only [Lx]; omega)) only [go_sem, simprocAttr]
  refine call_ro h2 rfl rfl ?_
  simp (disch := first | omega | (simp only [Lx]; omega)) only [go_sem, simprocAttr]
  refine call_ro h4 rfl rfl ?_
  rcases he with h | h | h <;> rw [h] at h3 ⊢
  · simp (disch := first | omega | (simp only [Lx]; omega)) only [go_sem, simprocAttr]
    (repeat (first | (with_reducible refine gskip_of ?_) | (with_reducible refine gcskip_of ?_) | (with_reducible refine gopen_of ?_)) <;> simp (disch := first | omega | (simp only [Lx]; omega)) only [go_sem, simprocAttr])
    refine gcyes_of (callT_ro (by simp (disch := first | omega | (simp only [Lx]; omega)) only [go_sem, simprocAttr]) h3 (by simp (disch := first | omega | (simp only [Lx]; omega)) only [go_sem, simprocAttr]) rfl rfl ?_)
    simp (disch := first | omega | (simp only [Lx]; omega)) only [go_sem, simprocAttr]
    exact hR.ro ⟨rfl, rfl⟩
  · simp (disch := first | omega | (simp only [Lx]; omega)) only [go_sem, simprocAttr]
    (repeat (first | (with_reducible refine gskip_of ?_) | (with_reducible refine gcskip_of ?_) | (with_reducible refine gopen_of ?_)) <;> simp (disch := first | omega | (simp only [Lx]; omega)) only [go_sem, simprocAttr])
    refine gcyes_of (callT_ro (by simp (disch := first | omega | (simp only [Lx]; omega)) only [go_sem, simprocAttr]) h3 (by simp (disch := first | omega | (simp only [Lx]; omega)) only [go_sem, simprocAttr]) rfl rfl ?_)
    simp (disch := first | omega | (simp only [Lx]; omega)) only [go_sem, simprocAttr]
    exact hR.ro ⟨rfl, rfl⟩
  · simp (disch := first | omega | (simp only [Lx]; omega)) only [go_sem, simprocAttr]
    (repeat (first | (with_reducible refine gskip_of ?_) | (with_reducible refine gcskip_of ?_) | (with_reducible refine gopen_of ?_)) <;> simp (disch := first | omega | (simp only [Lx]; omega)) only [go_sem, simprocAttr])
    refine gcyes_of (callT_ro (by simp (disch := first | omega | (simp only [Lx]; omega)) only [go_sem, simprocAttr]) h3 (by simp (disch := first | omega | (simp only [Lx]; omega)) only [go_sem, simprocAttr]) rfl rfl ?_)
    simp (disch := first | omega | (simp only [Lx]; omega)) only [go_sem, simprocAttr]
    exact hR.ro ⟨rfl, rfl⟩
end Go.Proofs.YtgkcbhdpenmogaaDoor.Ps
