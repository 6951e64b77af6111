/- commits: what their bytes say, in plain Lean. -/
import Derived.Test.YtjpinndnicmokaaDoorCmNum
set_option linter.all false
namespace Go.Proofs.YtjpinndnicmokaaDoor.Cm
open Eng Ob
set_option maxRecDepth 10000
/- NUMBERS -/
theorem digitVal_some {c : UInt8} {d : Nat} (h : Lib.digitVal c = some d) : 48 ≤ c.toNat ∧ c.toNat ≤ 57 ∧ d = c.toNat - 48 := by
  unfold Lib.digitVal at h
  split at h
  · rename_i hc
    exact ⟨hc.1, hc.2, (Option.some.inj h).symm⟩
  · cases h
theorem decFrom_le : ∀ (l : Bs) (acc m : Nat), Lib.decFrom acc l = some m → acc ≤ m
  | [], acc, m, h => by simp [Lib.decFrom] at h; omega
  | c :: r, acc, m, h => by
    simp only [Lib.decFrom] at h
    split at h
    · have := decFrom_le r _ m h; omega
    · cases h
theorem parse_dec : ∀ (l : Bs) (acc m : Nat), Lib.decFrom acc l = some m → m < 18446744073709551616 → Lib.parseUint10 acc l = .ok m
  | [], acc, m, h, _ => by simp [Lib.decFrom] at h; subst h; rfl
  | c :: r, acc, m, h, hm => by
    simp only [Lib.decFrom] at h
    split at h
    · rename_i d hd
      have hle := decFrom_le r _ m h
      obtain ⟨h1, h2, h3⟩ := digitVal_some hd
      subst h3
      rw [Lib.parseUint10, if_pos ⟨h1, h2⟩, if_neg (by omega), if_neg (by omega)]
      exact parse_dec r _ m h hm
    · cases h
theorem mag_dec {n : Nat} (h : n < 18446744073709551616) : Lib.parseMag (Lib.decDigits n) = .ok n := by
  unfold Lib.parseMag
  rw [if_neg (dec_ne n)]
  exact parse_dec _ 0 n (dec_from n n (Nat.le_refl _)) h
theorem atoi_itoa (n : Int) (h0 : -9223372036854775808 ≤ n) (h1 : n ≤ 9223372036854775807) : Lib.atoiAll (Lib.itoa n) = .ok n := by
  by_cases h : n < 0
  · have e : Lib.itoa n = 45 :: Lib.decDigits n.natAbs := by unfold Lib.itoa; rw [if_pos h]
    rw [e]
    unfold Lib.atoiAll
    simp only [UInt8.reduceToNat, or_true, if_true, mag_dec (show n.natAbs < 18446744073709551616 by omega)]
    rw [if_neg (by simp), if_neg (by omega)]
    congr 1; omega
  · have e : Lib.itoa n = Lib.decDigits n.toNat := by unfold Lib.itoa; rw [if_neg h]
    rw [e]
    have hm := mag_dec (show n.toNat < 18446744073709551616 by omega)
    have hd := dec_digit n.toNat n.toNat (Nat.le_refl _)
    cases hl : Lib.decDigits n.toNat with
    | nil => exact absurd hl (dec_ne _)
    | cons b r =>
      rw [hl] at hm hd
      have hb := hd b (List.mem_cons_self ..)
      unfold Lib.atoiAll
      have hc : ¬ b.toNat = 43 := by omega
      have hc2 : ¬ b.toNat = 45 := by omega
      simp only [hc, hc2, if_false, hm, not_false_eq_true, true_and, false_and, or_self]
      rw [if_neg (by omega)]
      congr 1; omega
/-- a number from its decimal alone -/
def numI (s : Bs) : Option Int :=
  match Lib.atoiAll s with
  | .ok v => if Lib.itoa v = s then some v else none
  | _ => none
theorem numI_some {s : Bs} {v : Int} (h : numI s = some v) : Lib.itoa v = s ∧ Lib.atoiAll s = .ok v ∧ -9223372036854775808 ≤ v ∧ v ≤ 9223372036854775807 := by
  unfold numI at h
  split at h
  · rename_i u hu
    split at h
    · rename_i he
      obtain rfl := Option.some.inj h
      exact ⟨he, hu, Lib.atoiAll_bounds hu⟩
    · cases h
  · cases h
theorem numI_itoa (n : Int) (h0 : -9223372036854775808 ≤ n) (h1 : n ≤ 9223372036854775807) : numI (Lib.itoa n) = some n := by
  unfold numI
  rw [atoi_itoa n h0 h1]
  simp
theorem itoa_chars (n : Int) : ∀ b ∈ Lib.itoa n, b.toNat = 45 ∨ (48 ≤ b.toNat ∧ b.toNat ≤ 57) := by
  intro b hb
  unfold Lib.itoa at hb
  split at hb
  · rcases List.mem_cons.1 hb with rfl | hb
    · exact .inl rfl
    · exact .inr (dec_digit _ _ (Nat.le_refl _) b hb)
  · exact .inr (dec_digit _ _ (Nat.le_refl _) b hb)
theorem itoa_no (n : Int) (c : UInt8) (hc : c.toNat < 45) : c ∉ Lib.itoa n := by
  intro h
  have := itoa_chars n c h
  omega
/- ZONES -/
/-- two digits -/
def tw (k : Nat) : Bs := [dB (k / 10), dB (k % 10)]
def zoneT (n : Int) : Bs := (if n < 0 then 45 else 43) :: (tw (n.natAbs / 60) ++ tw (n.natAbs % 60))
def isD (c : UInt8) : Bool := decide (48 ≤ c.toNat) && decide (c.toNat ≤ 57)
def dv (c : UInt8) : Nat := c.toNat - 48
def zoneO (z : Bs) : Option Int :=
  match z with
  | [s, a, b, c, d] =>
    if isD a = true ∧ isD b = true ∧ isD c = true ∧ isD d = true then
      if dv c * 10 + dv d < 60 ∧ (s = 43 ∨ s = 45) ∧ z ≠ [45, 48, 48, 48, 48] then
        some (if s = 45 then -((60 * (dv a * 10 + dv b) + (dv c * 10 + dv d) : Nat) : Int) else ((60 * (dv a * 10 + dv b) + (dv c * 10 + dv d) : Nat) : Int))
      else none
    else none
  | _ => none
theorem dv_dB {k : Nat} (h : k < 10) : dv (dB k) = k := by unfold dv; rw [dB_nat h]; omega
theorem isD_dB {k : Nat} (h : k < 10) : isD (dB k) = true := by unfold isD; rw [dB_nat h]; simp; omega
theorem dB_dv {c : UInt8} (h : isD c = true) : dB (dv c) = c := by
  unfold isD at h
  simp at h
  apply UInt8.toNat.inj
  unfold dv
  rw [dB_nat (by omega)]; omega
theorem dv_lt {c : UInt8} (h : isD c = true) : dv c < 10 := by
  unfold isD at h
  simp at h
  unfold dv; omega
theorem dB_inj {i j : Nat} (hi : i < 10) (hj : j < 10) (h : dB i = dB j) : i = j := by
  have := dv_dB hi
  rw [h, dv_dB hj] at this; exact this.symm
theorem zoneO_zoneT (n : Int) (h0 : -5999 ≤ n) (h1 : n ≤ 5999) : zoneO (zoneT n) = some n := by
  have hh : n.natAbs / 60 ≤ 99 := by omega
  have hm : n.natAbs % 60 < 60 := by omega
  have hn : n.natAbs = 60 * (n.natAbs / 60) + n.natAbs % 60 := by omega
  unfold zoneT tw zoneO
  generalize ha : n.natAbs / 60 = h at hh hn
  generalize hb : n.natAbs % 60 = m at hm hn
  simp only [List.cons_append, List.nil_append]
  rw [if_pos ⟨isD_dB (by omega), isD_dB (by omega), isD_dB (by omega), isD_dB (by omega)⟩]
  rw [dv_dB (by omega), dv_dB (by omega), dv_dB (by omega), dv_dB (by omega)]
  have e1 : h / 10 * 10 + h % 10 = h := by omega
  have e2 : m / 10 * 10 + m % 10 = m := by omega
  rw [e1, e2, ← hn]
  by_cases hneg : n < 0
  · rw [if_pos hneg, if_pos, if_pos rfl]
    · congr 1; omega
    · refine ⟨hm, .inr rfl, fun e => ?_⟩
      have hz : dB 0 = 48 := rfl
      rw [← hz] at e
      simp only [List.cons.injEq] at e
      have k1 := dB_inj (by omega) (by omega) e.2.1
      have k2 := dB_inj (by omega) (by omega) e.2.2.1
      have k3 := dB_inj (by omega) (by omega) e.2.2.2.1
      have k4 := dB_inj (by omega) (by omega) e.2.2.2.2.1
      omega
  · rw [if_neg hneg, if_pos, if_neg (by decide)]
    · congr 1; omega
    · exact ⟨hm, .inl rfl, fun e => absurd (List.cons.inj e).1 (by decide)⟩
theorem zoneO_some {z : Bs} {n : Int} (h : zoneO z = some n) : zoneT n = z ∧ -5999 ≤ n ∧ n ≤ 5999 := by
  unfold zoneO at h
  split at h
  · rename_i s a b c d
    split at h
    · rename_i hd
      obtain ⟨da, db, dc, dd⟩ := hd
      split at h
      · rename_i hc
        obtain ⟨hm, hs, hz⟩ := hc
        have hn := Option.some.inj h
        have la := dv_lt da; have lb := dv_lt db; have lc := dv_lt dc; have ld := dv_lt dd
        have hna : n.natAbs = 60 * (dv a * 10 + dv b) + (dv c * 10 + dv d) := by
          rw [← hn]; split <;> omega
        have eh : n.natAbs / 60 = dv a * 10 + dv b := by omega
        have em : n.natAbs % 60 = dv c * 10 + dv d := by omega
        have e1 : (dv a * 10 + dv b) / 10 = dv a := by omega
        have e2 : (dv a * 10 + dv b) % 10 = dv b := by omega
        have e3 : (dv c * 10 + dv d) / 10 = dv c := by omega
        have e4 : (dv c * 10 + dv d) % 10 = dv d := by omega
        refine ⟨?_, by omega, by omega⟩
        unfold zoneT tw
        rw [eh, em, e1, e2, e3, e4, dB_dv da, dB_dv db, dB_dv dc, dB_dv dd]
        simp only [List.cons_append, List.nil_append, List.cons.injEq, and_true]
        by_cases hs5 : s = 45
        · subst hs5
          rw [if_pos rfl] at hn
          rw [if_pos]
          rcases Nat.eq_zero_or_pos (60 * (dv a * 10 + dv b) + (dv c * 10 + dv d)) with h0 | h0
          · exfalso; apply hz
            have z1 : a = 48 := by rw [← dB_dv da, show dv a = 0 by omega]; rfl
            have z2 : b = 48 := by rw [← dB_dv db, show dv b = 0 by omega]; rfl
            have z3 : c = 48 := by rw [← dB_dv dc, show dv c = 0 by omega]; rfl
            have z4 : d = 48 := by rw [← dB_dv dd, show dv d = 0 by omega]; rfl
            rw [z1, z2, z3, z4]
          · omega
        · rw [if_neg hs5] at hn
          rw [if_neg (by omega)]
          rcases hs with rfl | rfl
          · rfl
          · exact absurd rfl hs5
      · cases h
    · cases h
  · cases h
theorem zoneT_len (n : Int) : (zoneT n).length = 5 := rfl
theorem zoneT_no (n : Int) (h0 : -5999 ≤ n) (h1 : n ≤ 5999) (x : UInt8) (hx : x.toNat < 43) : x ∉ zoneT n := by
  intro h
  unfold zoneT tw at h
  simp only [List.cons_append, List.nil_append, List.mem_cons, List.not_mem_nil, or_false] at h
  have hb : ∀ k, k < 10 → x = dB k → False := by
    intro k hk e; subst e; rw [dB_nat hk] at hx; omega
  rcases h with h | h | h | h | h
  · split at h <;> (subst h; revert hx; decide)
  · exact hb _ (by omega) h
  · exact hb _ (by omega) h
  · exact hb _ (by omega) h
  · exact hb _ (by omega) h
/-- what the program writes as a zone's digits -/
theorem zone_digits (h m : Nat) (hh : h < 100) (hm : m < 60) : (Lib.itoa ((10000 + h * 100 + m : Nat) : Int)).drop 1 = tw h ++ tw m := by
  rw [Lib.itoa_nonneg]
  generalize hx : 10000 + h * 100 + m = x
  rw [dec_big (n := x) (by omega), dec_big (n := x / 10) (by omega), dec_big (n := x / 10 / 10) (by omega), dec_big (n := x / 10 / 10 / 10) (by omega), dec_small (n := x / 10 / 10 / 10 / 10) (by omega)]
  unfold tw
  simp only [List.append_assoc, List.cons_append, List.nil_append, List.drop_succ_cons, List.drop_zero]
  have e1 : x / 10 / 10 / 10 % 10 = h / 10 := by omega
  have e2 : x / 10 / 10 % 10 = h % 10 := by omega
  have e3 : x / 10 % 10 = m / 10 := by omega
  have e4 : x % 10 = m % 10 := by omega
  rw [e1, e2, e3, e4]
/- THE LAST BLANK -/
def lcut (c : UInt8) : Bs → Option (Bs × Bs)
  | [] => none
  | x :: r => match lcut c r with
    | some (a, b) => some (x :: a, b)
    | none => if x = c then some ([], r) else none
theorem lcut_none {c : UInt8} : ∀ {s : Bs}, lcut c s = none → c ∉ s
  | [], _ => by simp
  | x :: r, h => by
    simp only [lcut] at h
    split at h
    · cases h
    · rename_i hr
      split at h
      · cases h
      · rename_i hx
        simp only [List.mem_cons, not_or]
        exact ⟨fun e => hx e.symm, lcut_none hr⟩
theorem lcut_some {c : UInt8} : ∀ {s a b : Bs}, lcut c s = some (a, b) → s = a ++ c :: b ∧ c ∉ b
  | [], _, _, h => by cases h
  | x :: r, a, b, h => by
    simp only [lcut] at h
    split at h
    · rename_i a' b' hr
      obtain ⟨rfl, rfl⟩ := Prod.mk.inj (Option.some.inj h)
      obtain ⟨h1, h2⟩ := lcut_some hr
      exact ⟨by rw [h1]; rfl, h2⟩
    · rename_i hr
      split at h
      · rename_i hx
        obtain ⟨rfl, rfl⟩ := Prod.mk.inj (Option.some.inj h)
        subst hx
        exact ⟨rfl, lcut_none hr⟩
      · cases h
theorem lcut_no {c : UInt8} : ∀ {s : Bs}, c ∉ s → lcut c s = none
  | [], _ => rfl
  | x :: r, h => by
    simp only [List.mem_cons, not_or] at h
    simp only [lcut, lcut_no h.2]
    rw [if_neg (fun e => h.1 e.symm)]
theorem lcut_app {c : UInt8} {b : Bs} (hb : c ∉ b) : ∀ a : Bs, lcut c (a ++ c :: b) = some (a, b)
  | [] => by
    simp only [List.nil_append, lcut, lcut_no hb, if_true]
  | x :: r => by
    simp only [List.cons_append, lcut, lcut_app hb r]
/- WHO AND WHEN -/
structure Sg where
  who : Bs
  time : Int
  zone : Int
  deriving DecidableEq
def signT (s : Sg) : Bs := s.who ++ 32 :: (Lib.itoa s.time ++ 32 :: zoneT s.zone)
def signL (l : Bs) : Option Sg :=
  match lcut 32 l with
  | none => none
  | some (x, z) => match lcut 32 x with
    | none => none
    | some (w, t) => match numI t with
      | none => none
      | some tm => match zoneO z with
        | none => none
        | some zn => some ⟨w, tm, zn⟩
def SgOK (s : Sg) : Prop := (-9223372036854775808 ≤ s.time ∧ s.time ≤ 9223372036854775807) ∧ (-5999 ≤ s.zone ∧ s.zone ≤ 5999)
theorem signL_some {l : Bs} {s : Sg} (h : signL l = some s) : signT s = l ∧ SgOK s := by
  unfold signL at h
  split at h
  · cases h
  rename_i x z hx
  split at h
  · cases h
  rename_i w t hw
  split at h
  · cases h
  rename_i tm ht
  split at h
  · cases h
  rename_i zn hz
  obtain rfl := Option.some.inj h
  obtain ⟨t1, _, t2, t3⟩ := numI_some ht
  obtain ⟨z1, z2, z3⟩ := zoneO_some hz
  obtain ⟨x1, _⟩ := lcut_some hx
  obtain ⟨w1, _⟩ := lcut_some hw
  refine ⟨?_, ⟨t2, t3⟩, z2, z3⟩
  unfold signT
  simp only
  rw [t1, z1, x1, w1]; simp
theorem signL_signT (s : Sg) (h : SgOK s) : signL (signT s) = some s := by
  obtain ⟨⟨t0, t1⟩, z0, z1⟩ := h
  unfold signT signL
  have e : s.who ++ 32 :: (Lib.itoa s.time ++ 32 :: zoneT s.zone) = (s.who ++ 32 :: Lib.itoa s.time) ++ 32 :: zoneT s.zone := by simp
  rw [e, lcut_app (zoneT_no s.zone z0 z1 32 (by decide))]
  simp only
  rw [lcut_app (itoa_no s.time 32 (by decide))]
  simp only [numI_itoa s.time t0 t1, zoneO_zoneT s.zone z0 z1]
theorem signT_no (s : Sg) (h : SgOK s) (x : UInt8) (hx : x.toNat < 32) (hw : x ∉ s.who) : x ∉ signT s := by
  unfold signT
  simp only [List.mem_append, List.mem_cons, not_or]
  exact ⟨hw, fun e => by subst e; revert hx; decide, itoa_no _ x (by omega), fun e => by subst e; revert hx; decide, zoneT_no _ h.2.1 h.2.2 x (by omega)⟩
/- LINES -/
def lineP (s : Bs) : Bool := decide (1 ≤ s.length) && decide (s.length ≤ 100) && !s.contains 10 && !s.contains 0
def signedP (s : Sg) : Bool := lineP s.who && decide (0 ≤ s.time) && decide (s.time ≤ 253402300799) && decide (-840 ≤ s.zone) && decide (s.zone ≤ 840)
theorem lineP_no {s : Bs} (h : lineP s = true) : 10 ∉ s ∧ 0 ∉ s ∧ 1 ≤ s.length ∧ s.length ≤ 100 := by
  unfold lineP at h
  simp only [Bool.and_eq_true, decide_eq_true_eq, Bool.not_eq_true', List.contains_eq_mem, decide_eq_false_iff_not] at h
  exact ⟨h.1.2, h.2, h.1.1.1, h.1.1.2⟩
theorem signedP_ok {s : Sg} (h : signedP s = true) : lineP s.who = true ∧ 0 ≤ s.time ∧ s.time ≤ 253402300799 ∧ -840 ≤ s.zone ∧ s.zone ≤ 840 := by
  unfold signedP at h
  simp only [Bool.and_eq_true, decide_eq_true_eq] at h
  exact ⟨h.1.1.1.1, h.1.1.1.2, h.1.1.2, h.1.2, h.2⟩
theorem signedP_sg {s : Sg} (h : signedP s = true) : SgOK s := by
  obtain ⟨_, h1, h2, h3, h4⟩ := signedP_ok h
  exact ⟨⟨by omega, by omega⟩, by omega, by omega⟩
/-- what stands behind a word and a blank in the first line, and what stands behind the line -/
def lineL (w s : Bs) : Option (Bs × Bs) :=
  if (cutP 10 s).2.2 = true ∧ (w ++ [32]) <+: (cutP 10 s).1 then some ((cutP 10 s).1.drop (w.length + 1), (cutP 10 s).2.1) else none
theorem cutP_app {c : UInt8} {a : Bs} (ha : c ∉ a) (b : Bs) : cutP c (a ++ c :: b) = (a, b, true) := by
  induction a with
  | nil => simp [cutP]
  | cons x r ih =>
    simp only [List.mem_cons, not_or] at ha
    simp only [List.cons_append, cutP]
    rw [if_neg (fun e => ha.1 e.symm), ih ha.2]
theorem cutP_true {c : UInt8} : ∀ {s : Bs}, (cutP c s).2.2 = true → s = (cutP c s).1 ++ c :: (cutP c s).2.1 ∧ c ∉ (cutP c s).1
  | [], h => by cases h
  | x :: r, h => by
    by_cases hx : x = c
    · subst hx; simp [cutP]
    · simp only [cutP, hx, if_false] at h ⊢
      obtain ⟨h1, h2⟩ := cutP_true (s := r) h
      refine ⟨by rw [List.cons_append, ← h1], ?_⟩
      simp only [List.mem_cons, not_or]
      exact ⟨fun e => hx e.symm, h2⟩
theorem lineL_some {w s v r : Bs} (h : lineL w s = some (v, r)) : s = w ++ 32 :: (v ++ 10 :: r) ∧ 10 ∉ v := by
  unfold lineL at h
  split at h
  · rename_i hc
    obtain ⟨rfl, rfl⟩ := Prod.mk.inj (Option.some.inj h)
    obtain ⟨h1, h2⟩ := cutP_true hc.1
    obtain ⟨t, ht⟩ := hc.2
    rw [← ht] at h1 h2 ⊢
    have e : (w ++ [32] ++ t).drop (w.length + 1) = t := by
      rw [List.drop_append_of_le_length (by simp), List.drop_of_length_le (by simp)]; rfl
    rw [e]
    refine ⟨by simpa using h1, ?_⟩
    simp only [List.mem_append, not_or] at h2
    exact h2.2
  · cases h
theorem lineL_mk {w v : Bs} (r : Bs) (hw : 10 ∉ w) (hv : 10 ∉ v) : lineL w (w ++ 32 :: (v ++ 10 :: r)) = some (v, r) := by
  have e : w ++ 32 :: (v ++ 10 :: r) = (w ++ 32 :: v) ++ 10 :: r := by simp
  have hn : (10 : UInt8) ∉ w ++ 32 :: v := by
    simp only [List.mem_append, List.mem_cons, not_or]
    exact ⟨hw, by decide, hv⟩
  unfold lineL
  rw [e, cutP_app hn]
  rw [if_pos ⟨rfl, ⟨v, by simp⟩⟩]
  simp only
  rw [List.drop_append, List.drop_of_length_le (by simp)]
  simp
theorem lineL_len {w s v r : Bs} (h : lineL w s = some (v, r)) : s.length = w.length + v.length + r.length + 2 := by
  rw [(lineL_some h).1]; simp; omega
def wTree : Bs := [116, 114, 101, 101]
def wParent : Bs := [112, 97, 114, 101, 110, 116]
def wAuthor : Bs := [97, 117, 116, 104, 111, 114]
def wCommitter : Bs := [99, 111, 109, 109, 105, 116, 116, 101, 114]
def pParent : Bs := [112, 97, 114, 101, 110, 116, 32]
/-- the parents' lines -/
def parL (s : Bs) : Option (List Bs × Bs) :=
  if pParent <+: s then
    match h : lineL wParent s with
    | none => none
    | some (v, r) =>
      have : r.length < s.length := by have := lineL_len h; omega
      match parL r with
      | none => none
      | some (ps, q) => some (v :: ps, q)
  else some ([], s)
termination_by s.length
theorem parL_no {s : Bs} (h : ¬ pParent <+: s) : parL s = some ([], s) := by rw [parL, if_neg h]
theorem parL_none {s : Bs} (h : pParent <+: s) (hl : lineL wParent s = none) : parL s = none := by
  rw [parL, if_pos h]
  split
  · rfl
  · rename_i hx; rw [hl] at hx; cases hx
theorem parL_cons {s v r : Bs} (h : pParent <+: s) (hl : lineL wParent s = some (v, r)) : parL s = (parL r).map fun q => (v :: q.1, q.2) := by
  rw [parL, if_pos h]
  split
  · rename_i hx; rw [hl] at hx; cases hx
  · rename_i v' r' hx
    rw [hl] at hx
    obtain ⟨rfl, rfl⟩ := Prod.mk.inj (Option.some.inj hx)
    cases parL r with
    | none => rfl
    | some q => rfl
def parT : List Bs → Bs
  | [] => []
  | p :: ps => wParent ++ 32 :: (p ++ 10 :: parT ps)
theorem parL_some : ∀ (n : Nat) {s q : Bs} {ps : List Bs}, s.length ≤ n → parL s = some (ps, q) → s = parT ps ++ q ∧ ¬ pParent <+: q ∧ ∀ p ∈ ps, 10 ∉ p
  | n, s, q, ps, hn, h => by
    by_cases hp : pParent <+: s
    · cases hl : lineL wParent s with
      | none => rw [parL_none hp hl] at h; cases h
      | some vr =>
        obtain ⟨v, r⟩ := vr
        rw [parL_cons hp hl] at h
        cases hr : parL r with
        | none => rw [hr] at h; cases h
        | some pq =>
          obtain ⟨ps', q'⟩ := pq
          rw [hr] at h
          obtain ⟨rfl, rfl⟩ := Prod.mk.inj (Option.some.inj h)
          have hlen := lineL_len hl
          obtain ⟨e1, e2⟩ := lineL_some hl
          match n with
          | 0 => omega
          | n + 1 =>
            obtain ⟨g1, g2, g3⟩ := parL_some n (s := r) (by omega) hr
            refine ⟨?_, g2, fun p hpm => ?_⟩
            · rw [e1, g1]; simp [parT]
            · rcases List.mem_cons.1 hpm with rfl | hpm
              · exact e2
              · exact g3 p hpm
    · rw [parL_no hp] at h
      obtain ⟨rfl, rfl⟩ := Prod.mk.inj (Option.some.inj h)
      exact ⟨rfl, hp, by simp⟩
theorem parL_mk {q : Bs} (hq : ¬ pParent <+: q) : ∀ {ps : List Bs}, (∀ p ∈ ps, 10 ∉ p) → parL (parT ps ++ q) = some (ps, q)
  | [], _ => parL_no hq
  | p :: ps, h => by
    have e : parT (p :: ps) ++ q = wParent ++ 32 :: (p ++ 10 :: (parT ps ++ q)) := by simp [parT]
    rw [e, parL_cons ⟨p ++ 10 :: (parT ps ++ q), by simp [pParent, wParent]⟩ (lineL_mk _ (by decide) (h p (List.mem_cons_self ..))), parL_mk hq (fun x hx => h x (List.mem_cons_of_mem _ hx))]
    rfl
/- COMMITS -/
structure Cmt where
  tree : Bs
  parents : List Bs
  author : Sg
  committer : Sg
  msg : Bs
  deriving DecidableEq
def textP (c : Cmt) : Bs := wTree ++ 32 :: (c.tree ++ 10 :: (parT c.parents ++ (wAuthor ++ 32 :: (signT c.author ++ 10 :: (wCommitter ++ 32 :: (signT c.committer ++ 10 :: (10 :: c.msg)))))))
/-- the message behind the empty line -/
def msgL : Bs → Option Bs
  | [] => none
  | c :: r => if c = 10 then some r else none
def parseL (s : Bs) : Option Cmt :=
  match lineL wTree s with
  | none => none
  | some (t, s1) => match parL s1 with
    | none => none
    | some (ps, s2) => match lineL wAuthor s2 with
      | none => none
      | some (a, s3) => match signL a with
        | none => none
        | some sa => match lineL wCommitter s3 with
          | none => none
          | some (b, s4) => match signL b with
            | none => none
            | some sb => match msgL s4 with
              | none => none
              | some m => some ⟨t, ps, sa, sb, m⟩
def CmOK (c : Cmt) : Prop := 10 ∉ c.tree ∧ (∀ p ∈ c.parents, 10 ∉ p) ∧ (SgOK c.author ∧ 10 ∉ c.author.who) ∧ (SgOK c.committer ∧ 10 ∉ c.committer.who)
theorem msgL_some {s m : Bs} (h : msgL s = some m) : s = 10 :: m := by
  cases s with
  | nil => cases h
  | cons c r =>
    simp only [msgL] at h
    split at h
    · rename_i hc; rw [hc, Option.some.inj h]
    · cases h
theorem parseL_some {s : Bs} {c : Cmt} (h : parseL s = some c) : textP c = s ∧ CmOK c := by
  unfold parseL at h
  split at h
  · cases h
  rename_i t s1 h1
  split at h
  · cases h
  rename_i ps s2 h2
  split at h
  · cases h
  rename_i a s3 h3
  split at h
  · cases h
  rename_i sa h4
  split at h
  · cases h
  rename_i b s4 h5
  split at h
  · cases h
  rename_i sb h6
  split at h
  · cases h
  rename_i m h7
  obtain rfl := Option.some.inj h
  obtain ⟨e1, n1⟩ := lineL_some h1
  obtain ⟨e2, _, n2⟩ := parL_some _ (Nat.le_refl _) h2
  obtain ⟨e3, n3⟩ := lineL_some h3
  obtain ⟨e4, n4⟩ := signL_some h4
  obtain ⟨e5, n5⟩ := lineL_some h5
  obtain ⟨e6, n6⟩ := signL_some h6
  have e7 := msgL_some h7
  have w1 : (10 : UInt8) ∉ sa.who := fun hm => n3 (by rw [← e4]; unfold signT; exact List.mem_append_left _ hm)
  have w2 : (10 : UInt8) ∉ sb.who := fun hm => n5 (by rw [← e6]; unfold signT; exact List.mem_append_left _ hm)
  refine ⟨?_, n1, n2, ⟨n4, w1⟩, n6, w2⟩
  unfold textP
  simp only
  rw [e4, e6, e1, e2, e3, e5, e7]
theorem parseL_textP (c : Cmt) (h : CmOK c) : parseL (textP c) = some c := by
  obtain ⟨h1, h2, ⟨h3, h4⟩, h5, h6⟩ := h
  unfold textP parseL
  rw [lineL_mk _ (by decide) h1]
  simp only
  rw [parL_mk (by intro ⟨t, ht⟩; simp [pParent, wAuthor] at ht) h2]
  simp only
  rw [lineL_mk _ (by decide) (signT_no _ h3 10 (by decide) h4)]
  simp only
  rw [signL_signT _ h3]
  simp only
  rw [lineL_mk _ (by decide) (signT_no _ h5 10 (by decide) h6)]
  simp only
  rw [signL_signT _ h5]
  simp [msgL]
end Go.Proofs.YtjpinndnicmokaaDoor.Cm
