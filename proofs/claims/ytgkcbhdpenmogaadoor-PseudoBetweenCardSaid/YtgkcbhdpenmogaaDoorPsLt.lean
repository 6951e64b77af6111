/- Pseudo: later seconds have later stamps. -/
import Derived.Test.YtgkcbhdpenmogaaDoorPsNum
set_option linter.all false
namespace Go.Proofs.YtgkcbhdpenmogaaDoor.Ps
open Eng Sv
set_option maxRecDepth 10000
def dc (n : Nat) : UInt8 := UInt8.ofNat (48 + n % 10)
def d2B (n : Nat) : Bs := [dc (n / 10), dc n]
def d4B (n : Nat) : Bs := [dc (n / 1000), dc (n / 100), dc (n / 10), dc n]
theorem pad_one {n : Nat} (h : n < 10) : padP 1 (Lib.decDigits n) = [dc n] := by
  rw [Lib.decDigits_one h]
  unfold padP dc
  rw [Nat.mod_eq_of_lt h]
  rfl
theorem pad_step (k n : Nat) : padP (k + 2) (Lib.decDigits n) = padP (k + 1) (Lib.decDigits (n / 10)) ++ [dc n] := by
  by_cases h : n < 10
  · have h0 : n / 10 = 0 := Nat.div_eq_of_lt h
    rw [h0, Lib.decDigits_one h, Lib.decDigits_one (by decide)]
    unfold padP dc
    rw [Nat.mod_eq_of_lt h]
    show List.replicate (k + 1) 48 ++ [_] = (List.replicate k 48 ++ [48]) ++ [_]
    rw [List.replicate_succ']
  · have e : Lib.decDigits n = Lib.decDigits (n / 10) ++ [dc n] := by rw [Lib.decDigits, dif_neg h]; rfl
    rw [e]
    unfold padP
    rw [List.length_append, List.length_singleton, List.append_assoc]
    congr 2
    omega
theorem itoa_nat (n : Int) (h0 : 0 ≤ n) : Lib.itoa n = Lib.decDigits n.toNat := by
  unfold Lib.itoa
  rw [if_neg (by omega)]
theorem pad2 (n : Int) (h0 : 0 ≤ n) (h1 : n < 100) : padP 2 (Lib.itoa n) = d2B n.toNat := by
  rw [itoa_nat n h0, pad_step 0, pad_one (by omega)]
  rfl
theorem pad4 (n : Int) (h0 : 0 ≤ n) (h1 : n < 10000) : padP 4 (Lib.itoa n) = d4B n.toNat := by
  rw [itoa_nat n h0, pad_step 2, pad_step 1, pad_step 0, pad_one (by omega)]
  unfold d4B
  simp only [Nat.div_div_eq_div_mul, List.cons_append, List.nil_append]
theorem dc_nat (n : Nat) : (dc n).toNat = 48 + n % 10 := by
  unfold dc
  rw [UInt8.toNat_ofNat']
  have : n % 10 < 10 := Nat.mod_lt _ (by decide)
  show (48 + n % 10) % 256 = _
  omega
theorem dc_isD (n : Nat) : isD (dc n) = true := by
  have := dc_nat n
  have : n % 10 < 10 := Nat.mod_lt _ (by decide)
  exact isD_of (by omega) (by omega)
theorem dc_eq {a b : Nat} (h : a % 10 = b % 10) : dc a = dc b := by unfold dc; rw [h]
theorem d2_lt {a b : Nat} (h : a < b) (hb : b < 100) (x y : Bs) : Lib.compareBytes (d2B a ++ x) (d2B b ++ y) = -1 := by
  have n1 := dc_nat a
  have n2 := dc_nat b
  have m1 := dc_nat (a / 10)
  have m2 := dc_nat (b / 10)
  by_cases h1 : a / 10 < b / 10
  · exact cb_lt (by omega) _ _
  · have e : dc (a / 10) = dc (b / 10) := dc_eq (by omega)
    unfold d2B
    rw [e]
    exact (cb_app [dc (b / 10)] _ _).trans (cb_lt (by omega) _ _)
theorem d4_lt {a b : Nat} (h : a < b) (hb : b < 10000) (x y : Bs) : Lib.compareBytes (d4B a ++ x) (d4B b ++ y) = -1 := by
  have n1 := dc_nat a
  have n2 := dc_nat b
  have m1 := dc_nat (a / 10)
  have m2 := dc_nat (b / 10)
  have k1 := dc_nat (a / 100)
  have k2 := dc_nat (b / 100)
  have j1 := dc_nat (a / 1000)
  have j2 := dc_nat (b / 1000)
  by_cases h1 : a / 1000 < b / 1000
  · exact cb_lt (by omega) _ _
  · have e : dc (a / 1000) = dc (b / 1000) := dc_eq (by omega)
    unfold d4B
    rw [e]
    refine (cb_app [dc (b / 1000)] _ _).trans ?_
    by_cases h2 : a / 100 < b / 100
    · exact cb_lt (by omega) _ _
    · have e : dc (a / 100) = dc (b / 100) := dc_eq (by omega)
      rw [e]
      refine (cb_app [dc (b / 100)] _ _).trans ?_
      by_cases h3 : a / 10 < b / 10
      · exact cb_lt (by omega) _ _
      · have e : dc (a / 10) = dc (b / 10) := dc_eq (by omega)
        rw [e]
        exact (cb_app [dc (b / 10)] _ _).trans (cb_lt (by omega) _ _)
def stB (x : Dt) : Bs := d4B x.y.toNat ++ (d2B x.m.toNat ++ (d2B x.d.toNat ++ (d2B x.h.toNat ++ (d2B x.i.toNat ++ d2B x.s.toNat))))
theorem stamp_st {x : Dt} (h : DtOK x) : stampP x = stB x := by
  obtain ⟨y0, y1, m0, m1, d0, d1, h0, h1, i0, i1, s0, s1⟩ := h
  unfold stampP stB
  rw [pad4 _ (by omega) (by omega), pad2 x.m (by omega) (by omega), pad2 x.d (by omega) (by omega), pad2 x.h (by omega) (by omega), pad2 x.i (by omega) (by omega), pad2 x.s (by omega) (by omega)]
  simp only [List.append_assoc]
theorem d2_all (n : Nat) : (d2B n).all isD = true := by simp [d2B, dc_isD]
theorem d4_all (n : Nat) : (d4B n).all isD = true := by simp [d4B, dc_isD]
theorem st_all (x : Dt) : (stB x).all isD = true := by
  unfold stB
  simp only [List.all_append, d2_all, d4_all, Bool.and_true]
theorem st_len (x : Dt) : (stB x).length = 14 := rfl
/-- the order of dates, field by field -/
def dtLt (a b : Dt) : Prop := a.y < b.y ∨ a.y = b.y ∧ (a.m < b.m ∨ a.m = b.m ∧ (a.d < b.d ∨ a.d = b.d ∧ (a.h < b.h ∨ a.h = b.h ∧ (a.i < b.i ∨ a.i = b.i ∧ a.s < b.s))))
theorem st_lt {a b : Dt} (ha : DtOK a) (hb : DtOK b) (h : dtLt a b) (x y : Bs) : Lib.compareBytes (stB a ++ x) (stB b ++ y) = -1 := by
  obtain ⟨y0, y1, m0, m1, d0, d1, h0, h1, i0, i1, s0, s1⟩ := ha
  obtain ⟨y2, y3, m2, m3, d2, d3, h2, h3, i2, i3, s2, s3⟩ := hb
  unfold stB
  simp only [List.append_assoc]
  rcases h with h | ⟨e, h⟩
  · exact d4_lt (by omega) (by omega) _ _
  rw [e]; refine (cb_app _ _ _).trans ?_
  rcases h with h | ⟨e, h⟩
  · exact d2_lt (by omega) (by omega) _ _
  rw [e]; refine (cb_app _ _ _).trans ?_
  rcases h with h | ⟨e, h⟩
  · exact d2_lt (by omega) (by omega) _ _
  rw [e]; refine (cb_app _ _ _).trans ?_
  rcases h with h | ⟨e, h⟩
  · exact d2_lt (by omega) (by omega) _ _
  rw [e]; refine (cb_app _ _ _).trans ?_
  rcases h with h | ⟨e, h⟩
  · exact d2_lt (by omega) (by omega) _ _
  rw [e]; refine (cb_app _ _ _).trans ?_
  exact d2_lt (by omega) (by omega) _ _
/-- days in order, dates in order -/
theorem c_lt {a b : Int} (h0 : 306 ≤ a) (h : a < b) : mY a < mY b ∨ mY a = mY b ∧ (mM a < mM b ∨ mM a = mM b ∧ mD a < mD b) := by
  have a0 : 0 ≤ a % 146097 := by omega
  have a1 : a % 146097 < 146097 := by omega
  have b0 : 0 ≤ b % 146097 := by omega
  have b1 : b % 146097 < 146097 := by omega
  have ya := yoe_in _ a0 a1
  have yb := yoe_in _ b0 b1
  unfold mY mM mD
  by_cases hE : a / 146097 < b / 146097
  · exact .inl (by omega)
  · have hE : a / 146097 = b / 146097 := by omega
    have ho : a % 146097 < b % 146097 := by omega
    have hm := yoe_mono a0 (Int.le_of_lt ho) b1
    rw [hE]
    by_cases hY : yoeI (a % 146097) < yoeI (b % 146097)
    · exact .inl (by omega)
    · have hY : yoeI (a % 146097) = yoeI (b % 146097) := by omega
      refine .inr ⟨by omega, ?_⟩
      have hd : doyI (a % 146097) < doyI (b % 146097) := by unfold doyI; rw [hY]; omega
      generalize doyI (a % 146097) = u at *
      generalize doyI (b % 146097) = v at *
      have hmp : mpI u ≤ mpI v := by unfold mpI; omega
      by_cases hM : mpI u < mpI v
      · exact .inl hM
      · have hM : mpI u = mpI v := by omega
        exact .inr ⟨hM, by rw [hM]; omega⟩
theorem mM_in {c : Int} (h0 : 306 ≤ c) : 0 ≤ mM c ∧ mM c ≤ 11 := by
  have d := doy_in (c % 146097) (by omega) (by omega)
  have m := mp_in _ d.1 d.2
  exact ⟨m.1, m.2.1⟩
theorem date_lt {a b : Int} (ha : inY a) (hb : inY b) (h : a < b) : dtLt (dateP a) (dateP b) := by
  have ca := c_in ha
  have cb := c_in hb
  have ma := mM_in ca.1
  have mb := mM_in cb.1
  unfold inY at ha hb
  by_cases hd : (a + 62135596800) / 86400 < (b + 62135596800) / 86400
  · have hc := c_lt ca.1 (show (a + 62135596800) / 86400 + 306 < (b + 62135596800) / 86400 + 306 by omega)
    have hx : (dateP a).y < (dateP b).y ∨ (dateP a).y = (dateP b).y ∧ ((dateP a).m < (dateP b).m ∨ (dateP a).m = (dateP b).m ∧ (dateP a).d < (dateP b).d) := by
      unfold dateP
      simp only
      generalize mD ((a + 62135596800) / 86400 + 306) = Da at *
      generalize mD ((b + 62135596800) / 86400 + 306) = Db at *
      generalize mM ((a + 62135596800) / 86400 + 306) = Ma at *
      generalize mM ((b + 62135596800) / 86400 + 306) = Mb at *
      generalize mY ((a + 62135596800) / 86400 + 306) = Ya at *
      generalize mY ((b + 62135596800) / 86400 + 306) = Yb at *
      split <;> split <;> simp only <;> omega
    unfold dtLt
    rcases hx with h | ⟨h1, h | ⟨h2, h⟩⟩
    · exact .inl h
    · exact .inr ⟨h1, .inl h⟩
    · exact .inr ⟨h1, .inr ⟨h2, .inl h⟩⟩
  · have hd : (a + 62135596800) / 86400 = (b + 62135596800) / 86400 := by omega
    have hr : (a + 62135596800) % 86400 < (b + 62135596800) % 86400 := by omega
    have hrb : (b + 62135596800) % 86400 < 86400 := by omega
    have hra : 0 ≤ (a + 62135596800) % 86400 := by omega
    have hx : (dateP a).y = (dateP b).y ∧ (dateP a).m = (dateP b).m ∧ (dateP a).d = (dateP b).d := by
      unfold dateP
      simp only
      rw [hd]
      split <;> simp only <;> trivial
    have ht : (dateP a).h < (dateP b).h ∨ (dateP a).h = (dateP b).h ∧ ((dateP a).i < (dateP b).i ∨ (dateP a).i = (dateP b).i ∧ (dateP a).s < (dateP b).s) := by
      have eh : ∀ n, (dateP n).h = (n + 62135596800) % 86400 / 3600 ∧ (dateP n).i = (n + 62135596800) % 86400 / 60 % 60 ∧ (dateP n).s = (n + 62135596800) % 86400 % 60 := by
        intro n
        unfold dateP
        simp only
        split <;> exact ⟨rfl, rfl, rfl⟩
      obtain ⟨a1, a2, a3⟩ := eh a
      obtain ⟨b1, b2, b3⟩ := eh b
      rw [a1, a2, a3, b1, b2, b3]
      generalize (a + 62135596800) % 86400 = u at *
      generalize (b + 62135596800) % 86400 = v at *
      omega
    exact .inr ⟨hx.1, .inr ⟨hx.2.1, .inr ⟨hx.2.2, ht⟩⟩⟩
end Go.Proofs.YtgkcbhdpenmogaaDoor.Ps
