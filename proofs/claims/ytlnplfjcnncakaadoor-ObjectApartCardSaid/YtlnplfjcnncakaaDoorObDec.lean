/- objects: heads read, the program's way and the document's. -/
import Derived.Test.YtlnplfjcnncakaaDoorObEnc
set_option linter.all false
namespace Go.Proofs.YtlnplfjcnncakaaDoor.Ob
open Eng
set_option maxRecDepth 10000
/- NUMBERS BY THEIR DIGITS -/
def isDig (b : UInt8) : Bool := decide (48 ≤ b.toNat ∧ b.toNat ≤ 57)
def valD (s : Bs) : Nat := s.foldl (fun n b => 10 * n + (b.toNat - 48)) 0
theorem valD_snoc (s : Bs) (b : UInt8) : valD (s ++ [b]) = 10 * valD s + (b.toNat - 48) := by simp [valD]
theorem valD_lt : ∀ (k : Nat) (s : Bs), s.length = k → s.all isDig = true → valD s < 10 ^ k
  | 0, s, h, _ => by
    rw [List.eq_nil_of_length_eq_zero h]; decide
  | k + 1, s, h, hd => by
    obtain ⟨t, b, rfl⟩ : ∃ t b, s = t ++ [b] := ⟨s.dropLast, s.getLast (by intro e; rw [e] at h; cases h), (List.dropLast_concat_getLast _).symm⟩
    rw [List.all_append] at hd
    simp only [Bool.and_eq_true, List.all_cons, List.all_nil, Bool.and_true] at hd
    have ih := valD_lt k t (by simpa using h) hd.1
    have hb := hd.2
    unfold isDig at hb
    rw [decide_eq_true_eq] at hb
    rw [valD_snoc, Nat.pow_succ]
    omega
theorem dB_of {b : UInt8} (h : isDig b = true) : dB (b.toNat - 48) = b := by
  unfold isDig at h
  rw [decide_eq_true_eq] at h
  apply UInt8.toNat.inj
  rw [dB_nat (by omega)]; omega
/-- a decimal without noughts ahead is the decimal of its number -/
theorem canon : ∀ (k : Nat) (s : Bs), s.length = k + 1 → s.all isDig = true → (1 < s.length → s.getD 0 0 ≠ 48) → Lib.decDigits (valD s) = s
  | 0, s, h, hd, _ => by
    match s, h with
    | [b], _ =>
      simp only [List.all_cons, List.all_nil, Bool.and_true] at hd
      have hb := hd
      unfold isDig at hb
      rw [decide_eq_true_eq] at hb
      have : valD [b] = b.toNat - 48 := by simp [valD]
      rw [this, dec_small (by omega), dB_of hd]
  | k + 1, s, h, hd, h0 => by
    obtain ⟨t, b, rfl⟩ : ∃ t b, s = t ++ [b] := ⟨s.dropLast, s.getLast (by intro e; rw [e] at h; cases h), (List.dropLast_concat_getLast _).symm⟩
    rw [List.all_append] at hd
    simp only [Bool.and_eq_true, List.all_cons, List.all_nil, Bool.and_true] at hd
    have hl : t.length = k + 1 := by simpa using h
    have hg : t.getD 0 0 ≠ 48 := by
      have := h0 (by simp; omega)
      rwa [List.getD_eq_getElem?_getD, List.getElem?_append_left (by omega), ← List.getD_eq_getElem?_getD] at this
    have ih := canon k t hl hd.1 (fun _ => hg)
    have hb := hd.2
    unfold isDig at hb
    rw [decide_eq_true_eq] at hb
    have hpos : 1 ≤ valD t := by
      rcases Nat.eq_zero_or_pos (valD t) with h1 | h1
      · rw [h1, dec_small (by omega)] at ih
        rw [← ih] at hg
        exact absurd rfl hg
      · exact h1
    rw [valD_snoc, dec_big (by omega), show (10 * valD t + (b.toNat - 48)) / 10 = valD t by omega, show (10 * valD t + (b.toNat - 48)) % 10 = b.toNat - 48 by omega, ih, dB_of hd.2]
def goodN (s : Bs) : Prop := 1 ≤ s.length ∧ s.length ≤ 9 ∧ (1 < s.length → s.getD 0 0 ≠ 48) ∧ s.all isDig = true
theorem dec_all (n : Nat) : (Lib.decDigits n).all isDig = true := by
  rw [List.all_eq_true]
  intro b hb
  have := dec_digit n n (Nat.le_refl _) b hb
  unfold isDig
  rw [decide_eq_true_eq]; exact this
theorem dec_head (n : Nat) (h : 1 < (Lib.decDigits n).length) : (Lib.decDigits n).getD 0 0 ≠ 48 := by
  have key : ∀ (f n : Nat), n ≤ f → 1 ≤ n → (Lib.decDigits n).getD 0 0 ≠ 48 := by
    intro f
    induction f with
    | zero => intro n h1 h2; omega
    | succ f ih =>
      intro n h1 h2
      by_cases hs : n < 10
      · rw [dec_small hs]
        intro e
        have := congrArg UInt8.toNat e
        simp only [List.getD_cons_zero] at this
        rw [dB_nat hs] at this
        have h48 : (48 : UInt8).toNat = 48 := rfl
        omega
      · rw [dec_big hs]
        have hn := List.length_pos_iff.2 (dec_ne (n / 10))
        rw [List.getD_eq_getElem?_getD, List.getElem?_append_left hn, ← List.getD_eq_getElem?_getD]
        exact ih (n / 10) (by omega) (by omega)
  refine key n n (Nat.le_refl _) ?_
  rcases Nat.eq_zero_or_pos n with h1 | h1
  · rw [h1, dec_small (by omega)] at h
    simp at h
  · exact h1
theorem dec_valD : ∀ (f n : Nat), n ≤ f → valD (Lib.decDigits n) = n
  | 0, n, h => by
    obtain rfl : n = 0 := by omega
    rw [dec_small (by omega)]; rfl
  | f + 1, n, h => by
    by_cases hs : n < 10
    · rw [dec_small hs]
      simp [valD, dB_nat hs]
    · rw [dec_big hs, valD_snoc, dec_valD f (n / 10) (by omega), dB_nat (by omega)]
      omega
theorem numO_good {s : Bs} (h : goodN s) : numO s = some (valD s) := by
  obtain ⟨h1, h2, h3, h4⟩ := h
  have hc := canon (s.length - 1) s (by omega) h4 h3
  have hv := valD_lt s.length s rfl h4
  have h9 : (10 : Nat) ^ s.length ≤ 10 ^ 9 := Nat.pow_le_pow_right (by decide) h2
  rw [← hc, numO_dec (by omega), hc]
theorem numO_bad {s : Bs} (h : ¬ goodN s) : numO s = none := by
  cases hn : numO s with
  | none => rfl
  | some y =>
    exfalso
    obtain ⟨h1, h2⟩ := numO_some hn
    rw [Lib.itoa_nonneg] at h1
    subst h1
    exact h ⟨List.length_pos_iff.2 (dec_ne y), h2, dec_head y, dec_all y⟩
def numI (o : Option Nat) : Int := match o with
  | some n => n
  | none => -1
theorem rnumber_ok (s : Bs) (hs : s.length ≤ 9223372036854775807) : SpecR Tryd.prog 20 [.str s] (.int .i64 (numI (numO s))) := by
  refine Cod.rnumber_spec (fun E R hN hR => ?_)
  by_cases h1 : s.length = 0
  · rw [numO_bad (fun h => by have := h.1; omega)] at hR
    simp (disch := first | omega | (simp only [List.length_append, List.length_cons, List.length_nil, List.length_set, List.length_map, List.length_take, List.length_drop, List.length_range, List.length_replicate, List.length_reverse]; omega)) only [go_sem, Nat.reduceBEq, Nat.reduceAdd, Nat.reduceSub, Nat.reduceMul, Nat.reduceLT, Nat.reduceLeDiff, Nat.reduceEqDiff, Int.reduceAdd, Int.reduceSub, Int.reduceMul, Int.reduceNeg, Int.reduceLT, Int.reduceLE, Int.reduceEq, Int.reduceToNat, UInt8.reduceOfNat, reduceCtorEq]
    (repeat (first | (with_reducible refine gskip_of ?_) | (with_reducible refine gcskip_of ?_) | (with_reducible refine gopen_of ?_)) <;> simp (disch := first | omega | (simp only [List.length_append, List.length_cons, List.length_nil, List.length_set, List.length_map, List.length_take, List.length_drop, List.length_range, List.length_replicate, List.length_reverse]; omega)) only [go_sem, Nat.reduceBEq, Nat.reduceAdd, Nat.reduceSub, Nat.reduceMul, Nat.reduceLT, Nat.reduceLeDiff, Nat.reduceEqDiff, Int.reduceAdd, Int.reduceSub, Int.reduceMul, Int.reduceNeg, Int.reduceLT, Int.reduceLE, Int.reduceEq, Int.reduceToNat, UInt8.reduceOfNat, reduceCtorEq])
    exact hR.ro ⟨rfl, rfl⟩
  by_cases h9 : 9 < s.length
  · rw [numO_bad (fun h => by have := h.2.1; omega)] at hR
    simp (disch := first | omega | (simp only [List.length_append, List.length_cons, List.length_nil, List.length_set, List.length_map, List.length_take, List.length_drop, List.length_range, List.length_replicate, List.length_reverse]; omega)) only [go_sem, Nat.reduceBEq, Nat.reduceAdd, Nat.reduceSub, Nat.reduceMul, Nat.reduceLT, Nat.reduceLeDiff, Nat.reduceEqDiff, Int.reduceAdd, Int.reduceSub, Int.reduceMul, Int.reduceNeg, Int.reduceLT, Int.reduceLE, Int.reduceEq, Int.reduceToNat, UInt8.reduceOfNat, reduceCtorEq]
    (repeat (first | (with_reducible refine gskip_of ?_) | (with_reducible refine gcskip_of ?_) | (with_reducible refine gopen_of ?_)) <;> simp (disch := first | omega | (simp only [List.length_append, List.length_cons, List.length_nil, List.length_set, List.length_map, List.length_take, List.length_drop, List.length_range, List.length_replicate, List.length_reverse]; omega)) only [go_sem, Nat.reduceBEq, Nat.reduceAdd, Nat.reduceSub, Nat.reduceMul, Nat.reduceLT, Nat.reduceLeDiff, Nat.reduceEqDiff, Int.reduceAdd, Int.reduceSub, Int.reduceMul, Int.reduceNeg, Int.reduceLT, Int.reduceLE, Int.reduceEq, Int.reduceToNat, UInt8.reduceOfNat, reduceCtorEq])
    exact hR.ro ⟨rfl, rfl⟩
  have rest : (1 < s.length → s.getD 0 0 ≠ 48) → vcW Tryd.prog E Cod.rnumber_L0 (KQ.blk 0 (KQ.seq Tryd.prog E Cod.rnumber_4 (KQ.post [.tmp 2] 1 R))) ⟨[(0, .str s), (3, .int .i64 0), (4, .int .i64 0)], []⟩ := by
    intro h0
    have bad : ∀ k, k < s.length → isDig (s.getD k 0) = false → numO s = none := by
      intro k hk hd
      refine numO_bad (fun h => ?_)
      have := List.all_eq_true.1 h.2.2.2 (s.getD k 0) (by rw [List.getD_eq_getElem?_getD, List.getElem?_eq_getElem hk]; exact List.getElem_mem hk)
      rw [this] at hd; cases hd
    refine vcW_loop hN (fun k : Nat => ⟨[(0, .str s), (3, .int .i64 (valD (s.take k))), (4, .int .i64 k)], []⟩) (fun k => k ≤ s.length ∧ (s.take k).all isDig = true) (fun k => s.length - k) 0 (.le (by simp (disch := first | omega | (simp only [List.length_append, List.length_cons, List.length_nil, List.length_set, List.length_map, List.length_take, List.length_drop, List.length_range, List.length_replicate, List.length_reverse]; omega)) only [go_sem, Nat.reduceBEq, Nat.reduceAdd, Nat.reduceSub, Nat.reduceMul, Nat.reduceLT, Nat.reduceLeDiff, Nat.reduceEqDiff, Int.reduceAdd, Int.reduceSub, Int.reduceMul, Int.reduceNeg, Int.reduceLT, Int.reduceLE, Int.reduceEq, Int.reduceToNat, UInt8.reduceOfNat, reduceCtorEq]; rfl)) ⟨by omega, rfl⟩ ?_
    rintro k R1 ⟨hk, hall⟩ hR1
    by_cases hlt : k < s.length
    · have htk := take_succB 0 s hlt
      have hbd := bad k hlt
      have hvl := valD_lt k (s.take k) (by rw [List.length_take]; omega) hall
      have h8 : (10 : Nat) ^ k ≤ 10 ^ 8 := Nat.pow_le_pow_right (by decide) (by omega)
      generalize hb : s.getD k 0 = b at *
      generalize hn : valD (s.take k) = n at *
      have hb1 := b.toNat_lt
      unfold isDig at hbd
      by_cases c1 : b.toNat < 48
      · rw [hbd (decide_eq_false (by omega))] at hR
        simp (disch := first | omega | (simp only [List.length_append, List.length_cons, List.length_nil, List.length_set, List.length_map, List.length_take, List.length_drop, List.length_range, List.length_replicate, List.length_reverse]; omega)) only [go_sem, Nat.reduceBEq, Nat.reduceAdd, Nat.reduceSub, Nat.reduceMul, Nat.reduceLT, Nat.reduceLeDiff, Nat.reduceEqDiff, Int.reduceAdd, Int.reduceSub, Int.reduceMul, Int.reduceNeg, Int.reduceLT, Int.reduceLE, Int.reduceEq, Int.reduceToNat, UInt8.reduceOfNat, reduceCtorEq, hb]
        (repeat (first | (with_reducible refine gskip_of ?_) | (with_reducible refine gcskip_of ?_) | (with_reducible refine gopen_of ?_)) <;> simp (disch := first | omega | (simp only [List.length_append, List.length_cons, List.length_nil, List.length_set, List.length_map, List.length_take, List.length_drop, List.length_range, List.length_replicate, List.length_reverse]; omega)) only [go_sem, Nat.reduceBEq, Nat.reduceAdd, Nat.reduceSub, Nat.reduceMul, Nat.reduceLT, Nat.reduceLeDiff, Nat.reduceEqDiff, Int.reduceAdd, Int.reduceSub, Int.reduceMul, Int.reduceNeg, Int.reduceLT, Int.reduceLE, Int.reduceEq, Int.reduceToNat, UInt8.reduceOfNat, reduceCtorEq])
        exact hR.ro ⟨rfl, rfl⟩
      by_cases c2 : 57 < b.toNat
      · rw [hbd (decide_eq_false (by omega))] at hR
        simp (disch := first | omega | (simp only [List.length_append, List.length_cons, List.length_nil, List.length_set, List.length_map, List.length_take, List.length_drop, List.length_range, List.length_replicate, List.length_reverse]; omega)) only [go_sem, Nat.reduceBEq, Nat.reduceAdd, Nat.reduceSub, Nat.reduceMul, Nat.reduceLT, Nat.reduceLeDiff, Nat.reduceEqDiff, Int.reduceAdd, Int.reduceSub, Int.reduceMul, Int.reduceNeg, Int.reduceLT, Int.reduceLE, Int.reduceEq, Int.reduceToNat, UInt8.reduceOfNat, reduceCtorEq, hb]
        exact hR.ro ⟨rfl, rfl⟩
      simp (disch := first | omega | (simp only [List.length_append, List.length_cons, List.length_nil, List.length_set, List.length_map, List.length_take, List.length_drop, List.length_range, List.length_replicate, List.length_reverse]; omega)) only [go_sem, Nat.reduceBEq, Nat.reduceAdd, Nat.reduceSub, Nat.reduceMul, Nat.reduceLT, Nat.reduceLeDiff, Nat.reduceEqDiff, Int.reduceAdd, Int.reduceSub, Int.reduceMul, Int.reduceNeg, Int.reduceLT, Int.reduceLE, Int.reduceEq, Int.reduceToNat, UInt8.reduceOfNat, reduceCtorEq, hb]
      refine hR1 (k + 1) _ (by omega) ⟨by omega, ?_⟩ (.le ?_)
      · rw [htk, List.all_append, hall]
        simp [isDig]; omega
      · rw [htk, valD_snoc, hn]
        simp (disch := first | omega | (simp only [List.length_append, List.length_cons, List.length_nil, List.length_set, List.length_map, List.length_take, List.length_drop, List.length_range, List.length_replicate, List.length_reverse]; omega)) only [go_sem, Nat.reduceBEq, Nat.reduceAdd, Nat.reduceSub, Nat.reduceMul, Nat.reduceLT, Nat.reduceLeDiff, Nat.reduceEqDiff, Int.reduceAdd, Int.reduceSub, Int.reduceMul, Int.reduceNeg, Int.reduceLT, Int.reduceLE, Int.reduceEq, Int.reduceToNat, UInt8.reduceOfNat, reduceCtorEq]
    · obtain rfl : k = s.length := by omega
      rw [List.take_of_length_le (by omega)] at hall ⊢
      rw [numO_good ⟨by omega, by omega, h0, hall⟩] at hR
      simp (disch := first | omega | (simp only [List.length_append, List.length_cons, List.length_nil, List.length_set, List.length_map, List.length_take, List.length_drop, List.length_range, List.length_replicate, List.length_reverse]; omega)) only [go_sem, Nat.reduceBEq, Nat.reduceAdd, Nat.reduceSub, Nat.reduceMul, Nat.reduceLT, Nat.reduceLeDiff, Nat.reduceEqDiff, Int.reduceAdd, Int.reduceSub, Int.reduceMul, Int.reduceNeg, Int.reduceLT, Int.reduceLE, Int.reduceEq, Int.reduceToNat, UInt8.reduceOfNat, reduceCtorEq]
      exact hR.ro ⟨rfl, rfl⟩
  by_cases hz : (s.getD 0 0).toNat = 48
  · by_cases hl : 1 < s.length
    · rw [numO_bad (fun h => h.2.2.1 hl (UInt8.toNat.inj hz))] at hR
      simp (disch := first | omega | (simp only [List.length_append, List.length_cons, List.length_nil, List.length_set, List.length_map, List.length_take, List.length_drop, List.length_range, List.length_replicate, List.length_reverse]; omega)) only [go_sem, Nat.reduceBEq, Nat.reduceAdd, Nat.reduceSub, Nat.reduceMul, Nat.reduceLT, Nat.reduceLeDiff, Nat.reduceEqDiff, Int.reduceAdd, Int.reduceSub, Int.reduceMul, Int.reduceNeg, Int.reduceLT, Int.reduceLE, Int.reduceEq, Int.reduceToNat, UInt8.reduceOfNat, reduceCtorEq]
      (repeat (first | (with_reducible refine gskip_of ?_) | (with_reducible refine gcskip_of ?_) | (with_reducible refine gopen_of ?_)) <;> simp (disch := first | omega | (simp only [List.length_append, List.length_cons, List.length_nil, List.length_set, List.length_map, List.length_take, List.length_drop, List.length_range, List.length_replicate, List.length_reverse]; omega)) only [go_sem, Nat.reduceBEq, Nat.reduceAdd, Nat.reduceSub, Nat.reduceMul, Nat.reduceLT, Nat.reduceLeDiff, Nat.reduceEqDiff, Int.reduceAdd, Int.reduceSub, Int.reduceMul, Int.reduceNeg, Int.reduceLT, Int.reduceLE, Int.reduceEq, Int.reduceToNat, UInt8.reduceOfNat, reduceCtorEq])
      exact hR.ro ⟨rfl, rfl⟩
    · simp (disch := first | omega | (simp only [List.length_append, List.length_cons, List.length_nil, List.length_set, List.length_map, List.length_take, List.length_drop, List.length_range, List.length_replicate, List.length_reverse]; omega)) only [go_sem, Nat.reduceBEq, Nat.reduceAdd, Nat.reduceSub, Nat.reduceMul, Nat.reduceLT, Nat.reduceLeDiff, Nat.reduceEqDiff, Int.reduceAdd, Int.reduceSub, Int.reduceMul, Int.reduceNeg, Int.reduceLT, Int.reduceLE, Int.reduceEq, Int.reduceToNat, UInt8.reduceOfNat, reduceCtorEq]
      (repeat (first | (with_reducible refine gskip_of ?_) | (with_reducible refine gcskip_of ?_) | (with_reducible refine gopen_of ?_)) <;> simp (disch := first | omega | (simp only [List.length_append, List.length_cons, List.length_nil, List.length_set, List.length_map, List.length_take, List.length_drop, List.length_range, List.length_replicate, List.length_reverse]; omega)) only [go_sem, Nat.reduceBEq, Nat.reduceAdd, Nat.reduceSub, Nat.reduceMul, Nat.reduceLT, Nat.reduceLeDiff, Nat.reduceEqDiff, Int.reduceAdd, Int.reduceSub, Int.reduceMul, Int.reduceNeg, Int.reduceLT, Int.reduceLE, Int.reduceEq, Int.reduceToNat, UInt8.reduceOfNat, reduceCtorEq])
      exact rest (fun h => absurd h hl)
  · simp (disch := first | omega | (simp only [List.length_append, List.length_cons, List.length_nil, List.length_set, List.length_map, List.length_take, List.length_drop, List.length_range, List.length_replicate, List.length_reverse]; omega)) only [go_sem, Nat.reduceBEq, Nat.reduceAdd, Nat.reduceSub, Nat.reduceMul, Nat.reduceLT, Nat.reduceLeDiff, Nat.reduceEqDiff, Int.reduceAdd, Int.reduceSub, Int.reduceMul, Int.reduceNeg, Int.reduceLT, Int.reduceLE, Int.reduceEq, Int.reduceToNat, UInt8.reduceOfNat, reduceCtorEq]
    (repeat (first | (with_reducible refine gskip_of ?_) | (with_reducible refine gcskip_of ?_) | (with_reducible refine gopen_of ?_)) <;> simp (disch := first | omega | (simp only [List.length_append, List.length_cons, List.length_nil, List.length_set, List.length_map, List.length_take, List.length_drop, List.length_range, List.length_replicate, List.length_reverse]; omega)) only [go_sem, Nat.reduceBEq, Nat.reduceAdd, Nat.reduceSub, Nat.reduceMul, Nat.reduceLT, Nat.reduceLeDiff, Nat.reduceEqDiff, Int.reduceAdd, Int.reduceSub, Int.reduceMul, Int.reduceNeg, Int.reduceLT, Int.reduceLE, Int.reduceEq, Int.reduceToNat, UInt8.reduceOfNat, reduceCtorEq])
    exact rest (fun _ e => hz (by rw [e]; rfl))
end Go.Proofs.YtlnplfjcnncakaaDoor.Ob
