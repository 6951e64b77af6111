/- commits, from the objects: numbers in decimal, the program's and the document's. -/
import Derived.Test.YtjpinndnicmokaaDoorCmLib
set_option linter.all false
namespace Go.Proofs.YtjpinndnicmokaaDoor.Ob
open Eng
set_option maxRecDepth 10000
/- PLAIN -/
theorem nth_c0 (x : AV) (r : List AV) : nth (x :: r) 0 = x := (rfl)
theorem nth_cs (x : AV) (r : List AV) (k : Nat) : nth (x :: r) (k + 1) = nth r k := by simp [nth]
def dB (k : Nat) : UInt8 := UInt8.ofNat (48 + k)
theorem dec_small {n : Nat} (h : n < 10) : Lib.decDigits n = [dB n] := by rw [Lib.decDigits, dif_pos h]; rfl
theorem dec_big {n : Nat} (h : ¬ n < 10) : Lib.decDigits n = Lib.decDigits (n / 10) ++ [dB (n % 10)] := by rw [Lib.decDigits, dif_neg h]; rfl
theorem dB_nat {k : Nat} (h : k < 10) : (dB k).toNat = 48 + k := by
  unfold dB; rw [UInt8.toNat_ofNat']; omega
theorem dec_ne (n : Nat) : Lib.decDigits n ≠ [] := by
  by_cases h : n < 10
  · rw [dec_small h]; simp
  · rw [dec_big h]; simp
theorem dec_digit : ∀ (f n : Nat), n ≤ f → ∀ b ∈ Lib.decDigits n, 48 ≤ b.toNat ∧ b.toNat ≤ 57
  | 0, n, hf, b, hb => by
    obtain rfl : n = 0 := by omega
    rw [dec_small (by omega)] at hb
    simp at hb; subst hb; decide
  | f + 1, n, hf, b, hb => by
    by_cases h : n < 10
    · rw [dec_small h] at hb
      simp at hb; subst hb; rw [dB_nat h]; omega
    · rw [dec_big h] at hb
      rcases List.mem_append.1 hb with hb | hb
      · exact dec_digit f (n / 10) (by omega) b hb
      · simp at hb; subst hb; rw [dB_nat (by omega)]; omega
theorem decFrom_snoc (b : UInt8) : ∀ (l : Bs) (acc : Nat), Lib.decFrom acc (l ++ [b]) = (Lib.decFrom acc l).bind fun m => (Lib.digitVal b).map fun d => m * 10 + d
  | [], acc => by
    simp only [List.nil_append, Lib.decFrom, Option.bind_some]
    cases Lib.digitVal b <;> rfl
  | x :: l, acc => by
    simp only [List.cons_append, Lib.decFrom]
    cases Lib.digitVal x with
    | none => rfl
    | some d => exact decFrom_snoc b l _
theorem digitVal_dB {k : Nat} (h : k < 10) : Lib.digitVal (dB k) = some k := by
  unfold Lib.digitVal
  rw [dB_nat h, if_pos (by omega)]
  congr 1; omega
theorem dec_from : ∀ (f n : Nat), n ≤ f → Lib.decFrom 0 (Lib.decDigits n) = some n
  | 0, n, hf => by
    obtain rfl : n = 0 := by omega
    rw [dec_small (by omega)]
    simp [Lib.decFrom, digitVal_dB]
  | f + 1, n, hf => by
    by_cases h : n < 10
    · rw [dec_small h]
      simp [Lib.decFrom, digitVal_dB h]
    · rw [dec_big h, decFrom_snoc, dec_from f (n / 10) (by omega), digitVal_dB (by omega)]
      simp; omega
theorem dec_len : ∀ (k n : Nat), n < 10 ^ (k + 1) ↔ (Lib.decDigits n).length ≤ k + 1
  | 0, n => by
    by_cases h : n < 10
    · rw [dec_small h]; simp; omega
    · rw [dec_big h]
      have := List.length_pos_iff.2 (dec_ne (n / 10))
      simp only [List.length_append, List.length_singleton]
      omega
  | k + 1, n => by
    by_cases h : n < 10
    · rw [dec_small h]
      have : 10 ^ 1 ≤ 10 ^ (k + 1 + 1) := Nat.pow_le_pow_right (by decide) (by omega)
      simp only [List.length_singleton]
      omega
    · rw [dec_big h]
      have ih := dec_len k (n / 10)
      have : n < 10 ^ (k + 1 + 1) ↔ n / 10 < 10 ^ (k + 1) := by rw [Nat.div_lt_iff_lt_mul (by decide), Nat.pow_succ 10 (k + 1)]
      simp only [List.length_append, List.length_singleton]
      omega
theorem dec_inj {n m : Nat} (h : Lib.decDigits n = Lib.decDigits m) : n = m := by
  have h1 := dec_from n n (Nat.le_refl _)
  rw [h, dec_from m m (Nat.le_refl _)] at h1
  exact (Option.some.inj h1).symm
theorem dec_atoi {n : Nat} (h : (Lib.decDigits n).length ≤ 18) : Lib.atoiAll (Lib.decDigits n) = .ok n := by
  rw [Lib.atoiAll_short _ h]
  have hf := dec_from n n (Nat.le_refl _)
  have hd := dec_digit n n (Nat.le_refl _)
  cases hl : Lib.decDigits n with
  | nil => exact absurd hl (dec_ne n)
  | cons b r =>
    rw [hl] at hf hd
    have hb := hd b (List.mem_cons_self ..)
    have h1 : (b == 45) = false := by simp only [beq_eq_false_iff_ne]; intro e; subst e; simp at hb
    have h2 : (b == 43) = false := by simp only [beq_eq_false_iff_ne]; intro e; subst e; simp at hb
    simp only [Lib.atoi, h1, h2, Lib.decNat, List.isEmpty_cons, Bool.false_eq_true, if_false, hf, Option.map_some]
    rfl
/-- a number of at most nine digits, from its decimal alone -/
def numO (s : Bs) : Option Nat :=
  match Lib.atoiAll s with
  | .ok v => if 0 ≤ v ∧ s.length ≤ 9 ∧ Lib.itoa v = s then some v.toNat else none
  | _ => none
theorem numO_some {s : Bs} {y : Nat} (h : numO s = some y) : Lib.itoa (y : Int) = s ∧ s.length ≤ 9 := by
  unfold numO at h
  split at h
  · split at h
    · rename_i v _ hc
      obtain rfl := Option.some.inj h
      obtain ⟨h1, h2, h3⟩ := hc
      rw [show ((v.toNat : Nat) : Int) = v by omega]
      exact ⟨h3, h2⟩
    · cases h
  · cases h
theorem numO_dec {n : Nat} (h : n ≤ 999999999) : numO (Lib.decDigits n) = some n := by
  have hl := (dec_len 8 n).1 (by omega)
  unfold numO
  rw [dec_atoi (by omega)]
  simp only
  rw [if_pos ⟨by omega, hl, Lib.itoa_nonneg n⟩]
  simp
theorem numO_itoa (n : Int) : numO (Lib.itoa n) = if 0 ≤ n ∧ n ≤ 999999999 then some n.toNat else none := by
  by_cases h : 0 ≤ n ∧ n ≤ 999999999
  · rw [if_pos h]
    obtain ⟨m, rfl⟩ := Int.eq_ofNat_of_zero_le h.1
    rw [Lib.itoa_nonneg, numO_dec (by omega)]; simp
  · rw [if_neg h]
    cases hn : numO (Lib.itoa n) with
    | none => rfl
    | some y =>
      obtain ⟨h1, h2⟩ := numO_some hn
      exfalso
      rw [Lib.itoa_nonneg] at h1
      by_cases h0 : 0 ≤ n
      · obtain ⟨m, rfl⟩ := Int.eq_ofNat_of_zero_le h0
        rw [Lib.itoa_nonneg] at h1 h2
        have := (dec_len 8 m).2 (by omega)
        omega
      · have e : Lib.itoa n = 45 :: Lib.decDigits n.natAbs := by unfold Lib.itoa; rw [if_pos (by omega)]
        rw [e] at h1
        have := dec_digit y y (Nat.le_refl _) 45 (by rw [h1]; exact List.mem_cons_self ..)
        simp at this
theorem itoa_len (n : Int) (h : n ≤ 9223372036854775807) (h0 : -9223372036854775808 ≤ n) : (Lib.itoa n).length ≤ 20 := by
  unfold Lib.itoa
  split
  · have := (dec_len 18 n.natAbs).1 (by omega)
    simp only [List.length_cons]; omega
  · have := (dec_len 18 n.toNat).1 (by omega)
    omega
/- THE WALKS -/
theorem dec_slice (n : Nat) (h : n < 10) : List.take (n + 1 - n) (List.drop n [48, 49, 50, 51, 52, 53, 54, 55, 56, 57]) = [dB n] := by
  have : ∀ m : Fin 10, List.take (m.val + 1 - m.val) (List.drop m.val [48, 49, 50, 51, 52, 53, 54, 55, 56, 57]) = [dB m.val] := by decide
  exact this ⟨n, h⟩
theorem rdig_nat : ∀ (f n : Nat), n ≤ f → n ≤ 9223372036854775807 → SpecR Tryd.prog 39 [.int .i64 (n : Int)] (.str (Lib.decDigits n)) := by
  intro f
  induction f with
  | zero =>
    intro n hn _
    obtain rfl : n = 0 := by omega
    refine Cod.digits8_spec (fun E R hN hR => ?_)
    simp (disch := first | omega | (simp only [Lx]; omega)) only [go_sem, simprocAttr]
    (repeat (first | (with_reducible refine gskip_of ?_) | (with_reducible refine gcskip_of ?_) | (with_reducible refine gopen_of ?_)) <;> simp (disch := first | omega | (simp only [Lx]; omega)) only [go_sem, simprocAttr])
    refine hR.ro ⟨rfl, ?_⟩
    rw [dec_small (by omega)]; rfl
  | succ f ih =>
    intro n hn hb
    refine Cod.digits8_spec (fun E R hN hR => ?_)
    by_cases h : n < 10
    · have := dec_slice n h
      simp (disch := first | omega | (simp only [Lx]; omega)) only [go_sem, simprocAttr]
      (repeat (first | (with_reducible refine gskip_of ?_) | (with_reducible refine gcskip_of ?_) | (with_reducible refine gopen_of ?_)) <;> simp (disch := first | omega | (simp only [Lx]; omega)) only [go_sem, simprocAttr])
      refine hR.ro ⟨rfl, ?_⟩
      rw [dec_small h, ← this]
    · have := dec_slice (n % 10) (by omega)
      have ih := ih (n / 10) (by omega) (by omega)
      have hl := itoa_len ((n / 10 : Nat) : Int) (by omega) (by omega)
      rw [Lib.itoa_nonneg] at hl
      have e1 : ((n : Int) % 10 + 1).toNat = n % 10 + 1 := by omega
      have e2 : ((n : Int) % 10).toNat = n % 10 := by omega
      have e3 : (n : Int) / 10 = ((n / 10 : Nat) : Int) := by omega
      simp (disch := first | omega | (simp only [Lx]; omega)) only [go_sem, simprocAttr]
      (repeat (first | (with_reducible refine gskip_of ?_) | (with_reducible refine gcskip_of ?_) | (with_reducible refine gopen_of ?_)) <;> simp (disch := first | omega | (simp only [Lx]; omega)) only [go_sem, simprocAttr])
      rw [e1, e2, this, e3]
      refine call_ro ih rfl rfl ?_
      simp (disch := first | omega | (simp only [Lx]; omega)) only [go_sem, simprocAttr]
      refine hR.ro ⟨rfl, ?_⟩
      rw [dec_big h]
theorem rdig_neg : ∀ (f n : Nat), n ≤ f → 1 ≤ n → n ≤ 9223372036854775808 → SpecR Tryd.prog 39 [.int .i64 (-(n : Int))] (.str (45 :: Lib.decDigits n)) := by
  intro f
  induction f with
  | zero => intro n hn h1; omega
  | succ f ih =>
    intro n hn h1 hb
    refine Cod.digits8_spec (fun E R hN hR => ?_)
    by_cases h : n < 10
    · have hd := rdig_nat n n (Nat.le_refl _) (by omega)
      have e1 : (0 : Int) - -(n : Int) = (n : Int) := by omega
      have hl : (Lib.decDigits n).length ≤ 1 := by rw [dec_small h]; simp
      simp (disch := first | omega | (simp only [Lx]; omega)) only [go_sem, simprocAttr]
      (repeat (first | (with_reducible refine gskip_of ?_) | (with_reducible refine gcskip_of ?_) | (with_reducible refine gopen_of ?_)) <;> simp (disch := first | omega | (simp only [Lx]; omega)) only [go_sem, simprocAttr])
      rw [e1]
      refine call_ro hd rfl rfl ?_
      simp (disch := first | omega | (simp only [Lx]; omega)) only [go_sem, simprocAttr]
      exact hR.ro ⟨rfl, rfl⟩
    · have e1 : IntKind.i64.wrap ((-(n : Int)).tdiv 10) = -((n / 10 : Nat) : Int) := by
        rw [Int.neg_tdiv, show (n : Int).tdiv 10 = ((n / 10 : Nat) : Int) from rfl]
        exact wrap_id (by omega)
      have e2 : (0 : Int) - (-(n : Int)).tmod 10 = ((n % 10 : Nat) : Int) := by
        rw [Int.neg_tmod, show (n : Int).tmod 10 = ((n % 10 : Nat) : Int) from rfl]
        omega
      have ih := ih (n / 10) (by omega) (by omega) (by omega)
      have hd := rdig_nat (n % 10) (n % 10) (Nat.le_refl _) (by omega)
      have hl := itoa_len (((n / 10 : Nat)) : Int) (by omega) (by omega)
      rw [Lib.itoa_nonneg] at hl
      have hl2 : (Lib.decDigits (n % 10)).length ≤ 1 := by rw [dec_small (by omega)]; simp
      have e3 := dec_small (n := n % 10) (by omega)
      simp (disch := first | omega | (simp only [Lx]; omega)) only [go_sem, simprocAttr]
      (repeat (first | (with_reducible refine gskip_of ?_) | (with_reducible refine gcskip_of ?_) | (with_reducible refine gopen_of ?_)) <;> simp (disch := first | omega | (simp only [Lx]; omega)) only [go_sem, simprocAttr])
      rw [e1]
      refine call_ro ih rfl rfl ?_
      simp (disch := first | omega | (simp only [Lx]; omega)) only [go_sem, simprocAttr, e2]
      refine call_ro hd rfl rfl ?_
      simp (disch := first | omega | (simp only [Lx]; omega)) only [go_sem, simprocAttr]
      refine hR.ro ⟨rfl, ?_⟩
      rw [dec_big h, e3]
theorem rdig_ok (n : Int) (h0 : -9223372036854775808 ≤ n) (h1 : n ≤ 9223372036854775807) : SpecR Tryd.prog 39 [.int .i64 n] (.str (Lib.itoa n)) := by
  by_cases h : n < 0
  · have := rdig_neg n.natAbs n.natAbs (Nat.le_refl _) (by omega) (by omega)
    rw [show -((n.natAbs : Nat) : Int) = n by omega] at this
    unfold Lib.itoa
    rw [if_pos h]
    exact this
  · have := rdig_nat n.toNat n.toNat (Nat.le_refl _) (by omega)
    rw [show ((n.toNat : Nat) : Int) = n by omega] at this
    unfold Lib.itoa
    rw [if_neg h]
    exact this
def nameP (k : Int) : Bs := if k = 1 then [99, 111, 109, 109, 105, 116] else if k = 2 then [116, 114, 101, 101] else if k = 3 then [98, 108, 111, 98] else if k = 4 then [116, 97, 103] else []
theorem name_ok (k : Int) : SpecR Tryd.prog 41 [.int .i64 k] (.str (nameP k)) := by
  refine Cod.oname_spec (fun E R hN hR => ?_)
  unfold nameP at hR
  by_cases h1 : k = 1
  · subst h1
    simp (disch := first | omega | (simp only [Lx]; omega)) only [go_sem, simprocAttr]
    exact hR.ro ⟨rfl, rfl⟩
  by_cases h2 : k = 2
  · subst h2
    simp (disch := first | omega | (simp only [Lx]; omega)) only [go_sem, simprocAttr]
    exact hR.ro ⟨rfl, rfl⟩
  by_cases h3 : k = 3
  · subst h3
    simp (disch := first | omega | (simp only [Lx]; omega)) only [go_sem, simprocAttr]
    exact hR.ro ⟨rfl, rfl⟩
  by_cases h4 : k = 4
  · subst h4
    simp (disch := first | omega | (simp only [Lx]; omega)) only [go_sem, simprocAttr]
    exact hR.ro ⟨rfl, rfl⟩
  rw [if_neg h1, if_neg h2, if_neg h3, if_neg h4] at hR
  simp (disch := first | omega | (simp only [Lx]; omega)) only [go_sem, simprocAttr]
  exact hR.ro ⟨rfl, rfl⟩
theorem name_len (k : Int) : (nameP k).length ≤ 6 := by
  unfold nameP
  repeat' (first | (split) | simp)
theorem rname_ok (k : Int) (h0 : -9223372036854775808 ≤ k) (h1 : k ≤ 9223372036854775807) : SpecR Tryd.prog 42 [.int .i64 k] (.str (nameP k)) := by
  refine Cod.rname_spec (fun E R hN hR => ?_)
  unfold nameP at hR
  by_cases a1 : k < 1
  · rw [if_neg (by omega), if_neg (by omega), if_neg (by omega), if_neg (by omega)] at hR
    simp (disch := first | omega | (simp only [Lx]; omega)) only [go_sem, simprocAttr]
    (repeat (first | (with_reducible refine gskip_of ?_) | (with_reducible refine gcskip_of ?_) | (with_reducible refine gopen_of ?_)) <;> simp (disch := first | omega | (simp only [Lx]; omega)) only [go_sem, simprocAttr])
    exact hR.ro ⟨rfl, rfl⟩
  by_cases a2 : 4 < k
  · rw [if_neg (by omega), if_neg (by omega), if_neg (by omega), if_neg (by omega)] at hR
    simp (disch := first | omega | (simp only [Lx]; omega)) only [go_sem, simprocAttr]
    (repeat (first | (with_reducible refine gskip_of ?_) | (with_reducible refine gcskip_of ?_) | (with_reducible refine gopen_of ?_)) <;> simp (disch := first | omega | (simp only [Lx]; omega)) only [go_sem, simprocAttr])
    exact hR.ro ⟨rfl, rfl⟩
  have hk : k = 1 ∨ k = 2 ∨ k = 3 ∨ k = 4 := by omega
  rcases hk with rfl | rfl | rfl | rfl
  all_goals
    simp (disch := first | omega | (simp only [Lx]; omega)) only [go_sem, simprocAttr, nth_c0, nth_cs]
    (repeat (first | (with_reducible refine gskip_of ?_) | (with_reducible refine gcskip_of ?_) | (with_reducible refine gopen_of ?_)) <;> simp (disch := first | omega | (simp only [Lx]; omega)) only [go_sem, simprocAttr, nth_c0, nth_cs])
    first | exact hR.ro ⟨rfl, rfl⟩ | (exact hR.wk (h' := []) (ar' := [.undef]) rfl (.le (by simp (disch := first | omega | (simp only [Lx]; omega)) only [go_sem, simprocAttr])) ⟨rfl, rfl⟩)
def kindP (s : Bs) : Int := if nameP 1 = s then 1 else if nameP 2 = s then 2 else if nameP 3 = s then 3 else if nameP 4 = s then 4 else 0
theorem kindP_at (s : Bs) (k : Nat) (h1 : 1 ≤ k) (h4 : k ≤ 4) (hno : ∀ j : Nat, 1 ≤ j → j < k → nameP j ≠ s) (hk : nameP k = s) : kindP s = k := by
  unfold kindP
  have hc : k = 1 ∨ k = 2 ∨ k = 3 ∨ k = 4 := by omega
  rcases hc with rfl | rfl | rfl | rfl
  · rw [if_pos (show nameP 1 = s from hk)]; rfl
  · rw [if_neg (show nameP 1 ≠ s from hno 1 (by omega) (by omega)), if_pos (show nameP 2 = s from hk)]; rfl
  · rw [if_neg (show nameP 1 ≠ s from hno 1 (by omega) (by omega)), if_neg (show nameP 2 ≠ s from hno 2 (by omega) (by omega)), if_pos (show nameP 3 = s from hk)]; rfl
  · rw [if_neg (show nameP 1 ≠ s from hno 1 (by omega) (by omega)), if_neg (show nameP 2 ≠ s from hno 2 (by omega) (by omega)), if_neg (show nameP 3 ≠ s from hno 3 (by omega) (by omega)), if_pos (show nameP 4 = s from hk)]; rfl
theorem kindP_no (s : Bs) (hno : ∀ j : Nat, 1 ≤ j → j < 5 → nameP j ≠ s) : kindP s = 0 := by
  unfold kindP
  rw [if_neg (show nameP 1 ≠ s from hno 1 (by omega) (by omega)), if_neg (show nameP 2 ≠ s from hno 2 (by omega) (by omega)), if_neg (show nameP 3 ≠ s from hno 3 (by omega) (by omega)), if_neg (show nameP 4 ≠ s from hno 4 (by omega) (by omega))]
theorem kind_ok (s : Bs) : SpecR Tryd.prog 56 [.str s] (.int .i64 (kindP s)) := by
  refine Cod.kind_spec (fun E R hN hR => ?_)
  simp (disch := first | omega | (simp only [Lx]; omega)) only [go_sem, simprocAttr]
  refine vcW_loop hN (fun k : Nat => ⟨[(0, .str s), (3, .int .i64 k)], []⟩) (fun k => 1 ≤ k ∧ k ≤ 5 ∧ ∀ j : Nat, 1 ≤ j → j < k → nameP j ≠ s) (fun k => 5 - k) 1 (.le (by simp (disch := first | omega | (simp only [Lx]; omega)) only [go_sem, simprocAttr])) ⟨by omega, by omega, fun j h1 h2 => by omega⟩ ?_
  rintro k R1 ⟨h1, h5, hno⟩ hR1
  by_cases hlt : k ≤ 4
  · have hn := name_ok k
    simp (disch := first | omega | (simp only [Lx]; omega)) only [go_sem, simprocAttr]
    refine call_ro hn rfl rfl ?_
    by_cases he : nameP k = s
    · simp (disch := first | omega | (simp only [Lx]; omega)) only [go_sem, simprocAttr, he]
      exact hR.ro ⟨rfl, by rw [kindP_at s k h1 hlt hno he]⟩
    · simp (disch := first | omega | (simp only [Lx]; omega)) only [go_sem, simprocAttr, he]
      refine hR1 (k + 1) _ (by omega) ⟨by omega, by omega, fun j g1 g2 => ?_⟩ (.le (by simp (disch := first | omega | (simp only [Lx]; omega)) only [go_sem, simprocAttr]))
      by_cases hj : j = k
      · subst hj; exact he
      · exact hno j g1 (by omega)
  · obtain rfl : k = 5 := by omega
    simp (disch := first | omega | (simp only [Lx]; omega)) only [go_sem, simprocAttr]
    exact hR.ro ⟨rfl, by rw [kindP_no s hno]⟩
theorem rkind_ok (s : Bs) : SpecR Tryd.prog 44 [.str s] (.int .i64 (kindP s)) := by
  refine Cod.rkind_spec (fun E R hN hR => ?_)
  simp (disch := first | omega | (simp only [Lx]; omega)) only [go_sem, simprocAttr]
  refine vcW_loop hN (fun k : Nat => ⟨[(0, .str s), (3, .int .i64 k)], []⟩) (fun k => 1 ≤ k ∧ k ≤ 5 ∧ ∀ j : Nat, 1 ≤ j → j < k → nameP j ≠ s) (fun k => 5 - k) 1 (.le (by simp (disch := first | omega | (simp only [Lx]; omega)) only [go_sem, simprocAttr])) ⟨by omega, by omega, fun j h1 h2 => by omega⟩ ?_
  rintro k R1 ⟨h1, h5, hno⟩ hR1
  by_cases hlt : k ≤ 4
  · have hn := rname_ok k (by omega) (by omega)
    simp (disch := first | omega | (simp only [Lx]; omega)) only [go_sem, simprocAttr]
    refine call_ro hn rfl rfl ?_
    by_cases he : nameP k = s
    · simp (disch := first | omega | (simp only [Lx]; omega)) only [go_sem, simprocAttr, he]
      exact hR.ro ⟨rfl, by rw [kindP_at s k h1 hlt hno he]⟩
    · simp (disch := first | omega | (simp only [Lx]; omega)) only [go_sem, simprocAttr, he]
      refine hR1 (k + 1) _ (by omega) ⟨by omega, by omega, fun j g1 g2 => ?_⟩ (.le (by simp (disch := first | omega | (simp only [Lx]; omega)) only [go_sem, simprocAttr]))
      by_cases hj : j = k
      · subst hj; exact he
      · exact hno j g1 (by omega)
  · obtain rfl : k = 5 := by omega
    simp (disch := first | omega | (simp only [Lx]; omega)) only [go_sem, simprocAttr]
    exact hR.ro ⟨rfl, by rw [kindP_no s hno]⟩
end Go.Proofs.YtjpinndnicmokaaDoor.Ob
