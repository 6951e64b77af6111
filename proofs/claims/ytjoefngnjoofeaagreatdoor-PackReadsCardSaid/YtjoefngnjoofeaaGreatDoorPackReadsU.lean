/- The proof, part 21 of 23. -/
import Derived.Test.YtjoefngnjoofeaaGreatDoorPackReadsM
import Derived.Test.YtjoefngnjoofeaaGreatDoorPackReadsN
import Derived.Test.YtjoefngnjoofeaaGreatDoorPackReadsT
set_option linter.all false
namespace Go.Proofs.YtjoefngnjoofeaaGreatDoor.Pk
open Eng Sh
set_option maxRecDepth 10000
def rdP (b : Bs) (p : Nat) : HP := [(143032, .var [.str b, .int .i64 p])]
theorem diedP {t : TypeId} {n : Int} {e : Nat} {st : St} (ht : t = 61 := by rfl) (hn : n = (e : Nat) := by rfl) : (KQ.dies (wrongP e)).ap (.panic (pan (.iface t (.int .i64 n)))) st := by
 subst ht hn; exact of_eq_true kqDies_p
theorem pbyte_ok (b : Bs) (p : Nat) (hb : b.length ≤ 1000000) (h : p < b.length) : Eng.Spec Tryz.prog 51 (rdP b p) [.vptr 143032 0] (fun h' v ar => h' = rdP b (p + 1) ∧ v = .int .i64 ((b.getD p 0).toNat : Nat) ∧ ar = [.vptr 143032 0]) := by
 refine Cod.pbyte_spec (fun E R hN hR => ?_)
 have hu := (b.getD p 0).toNat_lt
 have e1 : ((p : Int) + 1 - 1).toNat = p := by omega
 simp (disch := omega) only [go_sem, simprocAttr, rdP, e1]
 exact hR.le (by simp (disch := omega) only [go_sem, simprocAttr, rdP]) ⟨rfl, rfl, rfl⟩
theorem pbyte_die (b : Bs) (p : Nat) (hp : p ≤ 2000000) (hb : b.length ≤ 1000000) (h : b.length ≤ p) : Eng.SpecDies Tryz.prog 51 (rdP b p) [.vptr 143032 0] (wrongP 6) := by
 refine Cod.pbyte_dies (fun E hN => ?_)
 simp (disch := omega) only [go_sem, simprocAttr, rdP]
 exact diedP
def headR (b : Bs) : Nat → Nat → Nat → Nat → Nat × Nat × Nat
 | 0, p, _, _ => if b.length ≤ p then (0, 0, 6) else (0, 0, 3)
 | m + 1, p, size, sh => if b.length ≤ p then (0, 0, 6) else if (b.getD p 0).toNat < 128 then (size + (b.getD p 0).toNat % 128 * 2 ^ sh, p + 1, 0) else headR b m (p + 1) (size + (b.getD p 0).toNat % 128 * 2 ^ sh) (sh + 7)
def headP (b : Bs) (p : Nat) : Nat × Nat × Nat × Nat :=
 if b.length ≤ p then (0, 0, 0, 6) else if (b.getD p 0).toNat < 128 then ((b.getD p 0).toNat / 16 % 8, (b.getD p 0).toNat % 16, p + 1, 0) else
 if (headR b 4 (p + 1) ((b.getD p 0).toNat % 16) 4).2.2 ≠ 0 then (0, 0, 0, (headR b 4 (p + 1) ((b.getD p 0).toNat % 16) 4).2.2) else
 ((b.getD p 0).toNat / 16 % 8, (headR b 4 (p + 1) ((b.getD p 0).toNat % 16) 4).1, (headR b 4 (p + 1) ((b.getD p 0).toNat % 16) 4).2.1, 0)
theorem and_i64 {x n : Nat} (hx : x < 1000000) (hn : n ≤ 10) : bits .and .i64 (x : Int) ((2 ^ n - 1 : Nat) : Int) = ((x % 2 ^ n : Nat) : Int) := by
 have hp : 2 ^ n ≤ 2 ^ 10 := Nat.pow_le_pow_right (by decide) hn
 have hp1 : 0 < 2 ^ n := Nat.pow_pos (by decide)
 have := Nat.mod_lt x hp1
 show IntKind.i64.wrap ((BitVec.ofInt 64 (x : Int) &&& BitVec.ofInt 64 ((2 ^ n - 1 : Nat) : Int)).toNat : Int) = _
 rw [BitVec.ofInt_natCast, BitVec.ofInt_natCast, BitVec.toNat_and, BitVec.toNat_ofNat, BitVec.toNat_ofNat, Nat.mod_eq_of_lt (by omega), Nat.mod_eq_of_lt (by omega), Nat.and_two_pow_sub_one_eq_mod]
 exact wrap_id (by omega)
theorem or_sh {x k c : Nat} (hx : x < 2 ^ k) (hk : k ≤ 32) (hc : c < 128) : bits .or .i64 (x : Int) (IntKind.i64.wrap ((c : Int) * 2 ^ min k 64)) = ((x + c * 2 ^ k : Nat) : Int) := by
 have hp : 2 ^ k ≤ 2 ^ 32 := Nat.pow_le_pow_right (by decide) hk
 have h2 : c * 2 ^ k ≤ 127 * 2 ^ 32 := Nat.mul_le_mul (by omega) hp
 have e : IntKind.i64.wrap ((c : Int) * 2 ^ min k 64) = ((c * 2 ^ k : Nat) : Int) := by
  rw [Nat.min_eq_left (by omega), show ((c : Int) * 2 ^ k) = ((c * 2 ^ k : Nat) : Int) by push_cast; rfl]
  exact wrap_id (by omega)
 rw [e]
 show IntKind.i64.wrap ((BitVec.ofInt 64 (x : Int) ||| BitVec.ofInt 64 ((c * 2 ^ k : Nat) : Int)).toNat : Int) = _
 rw [BitVec.ofInt_natCast, BitVec.ofInt_natCast, BitVec.toNat_or, BitVec.toNat_ofNat, BitVec.toNat_ofNat, Nat.mod_eq_of_lt (by omega), Nat.mod_eq_of_lt (by omega), Nat.or_comm, ← Nat.shiftLeft_eq, ← Nat.shiftLeft_add_eq_or_of_lt hx, Nat.shiftLeft_eq, Nat.add_comm]
 exact wrap_id (by omega)
set_option maxHeartbeats 1000000 in
theorem phead_gen (b : Bs) (p : Nat) (hb : b.length ≤ 1000000) (hp : p ≤ 1000000) {E : Env} (hN : E.N ≤ 1000000) (Q : KQ)
    (hret : (headP b p).2.2.2 = 0 → Q.ap .ret ⟨[(2, .int .i64 ((headP b p).1 : Nat)), (3, .int .i64 ((headP b p).2.1 : Nat)), (2000000, .vptr 143032 0)], rdP b (headP b p).2.2.1⟩)
    (hdie : ∀ st, (headP b p).2.2.2 ≠ 0 → Q.ap (.panic (pan (wrongP (headP b p).2.2.2))) st) :
    vcW Tryz.prog E Cod.phead Q ⟨[(0, .vptr 143032 0), (2000000, .vptr 143032 0)], rdP b p⟩ := by
 generalize hH : headP b p = H at *
 unfold headP at hH
 by_cases h0 : b.length ≤ p
 ·rw [if_pos h0] at hH
  subst hH
  simp (disch := omega) only [go_sem, simprocAttr]
  refine dc_die (rdP b p) (pbyte_die b p (by omega) hb h0) (by simp (disch := omega) only [go_sem, simprocAttr, rdP]) ?_
  exact hdie _ (by decide)
 ·rw [if_neg h0] at hH
  have hu := (b.getD p 0).toNat_lt
  have hby := pbyte_ok b p hb (by omega)
  generalize (b.getD p 0).toNat = c at *
  have hsh : ((c : Nat) : Int).fdiv (2 ^ min 4 64) = ((c / 16 : Nat) : Int) := by
   rw [Nat.min_eq_left (by decide), Int.fdiv_eq_ediv_of_nonneg _ (by decide)]; omega
  have hk7 : bits .and .i64 ((c / 16 : Nat) : Int) 7 = ((c / 16 % 8 : Nat) : Int) := and_i64 (n := 3) (by omega) (by decide)
  have hk15 : bits .and .i64 (c : Int) 15 = ((c % 16 : Nat) : Int) := and_i64 (n := 4) (by omega) (by decide)
  simp (disch := omega) only [go_sem, simprocAttr]
  refine dc_ret ?_
  refine call_win (rdP b p) hby (by simp (disch := omega) only [go_sem, simprocAttr, rdP]) nofun ?_
  rintro h' v ar ⟨rfl, rfl, rfl⟩
  refine ⟨by simp (disch := omega) only [go_sem, simprocAttr, rdP], rfl, ?_⟩
  simp (disch := omega) only [go_sem, simprocAttr, hsh, hk7, hk15]
  refine vcW_loop hN (fun q : Nat × Nat × Nat × Nat => ⟨[(0, .vptr 143032 0), (2, .int .i64 0), (3, .int .i64 0), (4, .int .i64 q.2.2.2), (5, .int .i64 (c / 16 % 8 : Nat)), (6, .int .i64 q.2.2.1), (7, .int .i64 (4 + 7 * (4 - q.1) : Nat)), (2000000, .vptr 143032 0)], rdP b q.2.1⟩)
   (fun q => q.1 ≤ 4 ∧ q.2.1 ≤ 1000000 ∧ q.2.2.1 < 2 ^ (4 + 7 * (4 - q.1)) ∧ q.2.2.2 < 256 ∧ (if q.2.2.2 < 128 then H = (c / 16 % 8, q.2.2.1, q.2.1, 0) else
    H = if (headR b q.1 q.2.1 q.2.2.1 (4 + 7 * (4 - q.1))).2.2 ≠ 0 then (0, 0, 0, (headR b q.1 q.2.1 q.2.2.1 (4 + 7 * (4 - q.1))).2.2) else (c / 16 % 8, (headR b q.1 q.2.1 q.2.2.1 (4 + 7 * (4 - q.1))).1, (headR b q.1 q.2.1 q.2.2.1 (4 + 7 * (4 - q.1))).2.1, 0)))
   (fun q => if q.2.2.2 < 128 then 0 else q.1 + 1) (4, p + 1, c % 16, c) (.le (by simp (disch := omega) only [go_sem, simprocAttr, rdP])) ⟨by simp, by simp only; omega, by simp only; omega, hu, by
    by_cases hc : c < 128
    ·rw [if_pos hc] at hH; simp only [if_pos hc]; exact hH.symm
    ·rw [if_neg hc] at hH; simp only [if_neg hc]; exact hH.symm⟩ ?_
  clear hH hby hsh hk15
  rintro ⟨m, p2, n, d⟩ R1 ⟨hm, hp2, hn, hd, hH⟩ hR1
  simp only at hm hp2 hn hd hH
  generalize hshe : 4 + 7 * (4 - m) = sh at *
  by_cases hc : d < 128
  ·rw [if_pos hc] at hH
   subst hH
   have hret := hret rfl
   simp only [rdP] at hret
   simp (disch := omega) only [go_sem, simprocAttr, rdP, hshe]
   exact hret
  ·rw [if_neg hc] at hH
   by_cases hend : b.length ≤ p2
   ·have hR0 : headR b m p2 n sh = (0, 0, 6) := by cases m with | zero => exact if_pos hend | succ m => exact if_pos hend
    rw [hR0, if_pos (by decide)] at hH
    subst hH
    simp (disch := omega) only [go_sem, simprocAttr, rdP, hshe]
    refine dc_die (rdP b p2) (pbyte_die b p2 (by omega) hb hend) (by simp (disch := omega) only [go_sem, simprocAttr, rdP]) ?_
    exact hdie _ (by decide)
   ·have hby := pbyte_ok b p2 hb (by omega)
    have hu := (b.getD p2 0).toNat_lt
    cases m with
    | zero =>
     have hR0 : headR b 0 p2 n sh = (0, 0, 3) := if_neg hend
     rw [hR0, if_pos (by decide)] at hH
     subst hH
     simp (disch := omega) only [go_sem, simprocAttr, rdP, hshe]
     refine dc_ret ?_
     refine call_win (rdP b p2) hby (by simp (disch := omega) only [go_sem, simprocAttr, rdP]) nofun ?_
     rintro h' v ar ⟨rfl, rfl, rfl⟩
     refine ⟨by simp (disch := omega) only [go_sem, simprocAttr, rdP], rfl, ?_⟩
     have hgt : (25 : Int) < (sh : Int) := by omega
     simp (disch := omega) only [go_sem, simprocAttr, hgt, hshe]
     exact hdie _ (by decide)
    | succ m =>
     have hR0 : headR b (m + 1) p2 n sh = if (b.getD p2 0).toNat < 128 then (n + (b.getD p2 0).toNat % 128 * 2 ^ sh, p2 + 1, 0) else headR b m (p2 + 1) (n + (b.getD p2 0).toNat % 128 * 2 ^ sh) (sh + 7) := if_neg hend
     rw [hR0] at hH
     generalize (b.getD p2 0).toNat = x at *
     have hk : bits .and .i64 (x : Int) 127 = ((x % 128 : Nat) : Int) := and_i64 (n := 7) (by omega) (by decide)
     have ho := or_sh (x := n) (k := sh) (c := x % 128) hn (by omega) (Nat.mod_lt _ (by decide))
     have hn2 : n + x % 128 * 2 ^ sh < 2 ^ (sh + 7) := by
      have h1 : x % 128 ≤ 127 := by omega
      have h2 : x % 128 * 2 ^ sh ≤ 127 * 2 ^ sh := Nat.mul_le_mul_right _ h1
      rw [Nat.pow_add]
      omega
     have hgt : ¬ (25 : Int) < (sh : Int) := by omega
     have hs7 : sh + 7 = 4 + 7 * (4 - m) := by omega
     have hsz : n + x % 128 * 2 ^ sh < 4294967296 := by
      have : 2 ^ (sh + 7) ≤ 2 ^ 32 := Nat.pow_le_pow_right (by decide) (by omega)
      omega
     simp (disch := omega) only [go_sem, simprocAttr, rdP, hshe]
     refine dc_ret ?_
     refine call_win (rdP b p2) hby (by simp (disch := omega) only [go_sem, simprocAttr, rdP]) nofun ?_
     rintro h' v ar ⟨rfl, rfl, rfl⟩
     refine ⟨by simp (disch := omega) only [go_sem, simprocAttr, rdP], rfl, ?_⟩
     simp (disch := omega) only [go_sem, simprocAttr, hgt, hshe, hk, ho]
     generalize hz : n + x % 128 * 2 ^ sh = z at *
     rw [hs7] at hH hn2
     refine hR1 (m, p2 + 1, z, x) _ ?_ ⟨by simp only; omega, by simp only; omega, hn2, hu, ?_⟩ (.le ?_)
     ·simp only [if_neg hc]; split <;> omega
     ·simp only
      by_cases hx : x < 128
      ·rw [if_pos hx] at hH ⊢
       rw [if_neg (by simp)] at hH
       exact hH
      ·rw [if_neg hx] at hH ⊢
       exact hH
     ·simp (disch := omega) only [go_sem, simprocAttr, rdP, ← hs7]
theorem phead_ok (b : Bs) (p : Nat) (hb : b.length ≤ 1000000) (hp : p ≤ 1000000) (he : (headP b p).2.2.2 = 0) : Eng.Spec Tryz.prog 24 (rdP b p) [.vptr 143032 0]
    (fun h' v ar => h' = rdP b (headP b p).2.2.1 ∧ v = .tup [.int .i64 ((headP b p).1 : Nat), .int .i64 ((headP b p).2.1 : Nat)] ∧ ar = [.vptr 143032 0]) := by
 refine Cod.phead_spec (fun E R hN hR => ?_)
 refine phead_gen b p hb hp hN _ (fun _ => ?_) (fun st h => absurd he h)
 simp (disch := omega) only [go_sem, simprocAttr, rdP]
 exact hR.le (by simp (disch := omega) only [go_sem, simprocAttr, rdP]) ⟨rfl, rfl, rfl⟩
theorem phead_die (b : Bs) (p : Nat) (hb : b.length ≤ 1000000) (hp : p ≤ 1000000) (he : (headP b p).2.2.2 ≠ 0) : Eng.SpecDies Tryz.prog 24 (rdP b p) [.vptr 143032 0] (wrongP (headP b p).2.2.2) := by
 refine Cod.phead_dies (fun E hN => ?_)
 exact phead_gen b p hb hp hN _ (fun h => absurd h he) (fun st _ => of_eq_true kqDies_p)
end Go.Proofs.YtjoefngnjoofeaaGreatDoor.Pk
namespace Go.Proofs.YtjoefngnjoofeaaGreatDoor.Pk
open Eng Sh
set_option maxRecDepth 10000
def backL (b : Bs) : Nat → Nat → Nat → Nat × Nat × Nat
 | 0, _, _ => (0, 0, 6)
 | k + 1, p, n => if b.length ≤ p then (0, 0, 6) else if (b.getD p 0).toNat < 128 then (n + (b.getD p 0).toNat % 128, p + 1, 0) else if 16777216 < n + (b.getD p 0).toNat % 128 then (0, 0, 3) else backL b k (p + 1) ((n + (b.getD p 0).toNat % 128 + 1) * 128)
theorem backL_succ (b : Bs) (k p n : Nat) : backL b (k + 1) p n = if b.length ≤ p then (0, 0, 6) else if (b.getD p 0).toNat < 128 then (n + (b.getD p 0).toNat % 128, p + 1, 0) else if 16777216 < n + (b.getD p 0).toNat % 128 then (0, 0, 3) else backL b k (p + 1) ((n + (b.getD p 0).toNat % 128 + 1) * 128) := rfl
def backP (b : Bs) (p : Nat) : Nat × Nat × Nat := backL b (b.length + 1 - p) p 0
theorem backL_end (b : Bs) {p : Nat} (h : b.length ≤ p) (k n : Nat) : backL b k p n = (0, 0, 6) := by
 cases k with
 | zero => rfl
 | succ k => rw [backL_succ, if_pos h]
theorem or_7 {x b : Nat} (hx : x < 281474976710656) (hb : b < 128) : bits .or .i64 (IntKind.i64.wrap ((x : Int) * 2 ^ min 7 64)) (b : Int) = ((128 * x + b : Nat) : Int) := by
 have h1 : ((x : Int) * 2 ^ min 7 64) = ((x * 128 : Nat) : Int) := by
  rw [show ((2 : Int) ^ min 7 64) = 128 by decide]; omega
 rw [h1, wrap_id (by omega)]
 show IntKind.i64.wrap ((BitVec.ofInt 64 ((x * 128 : Nat) : Int) ||| BitVec.ofInt 64 (b : Int)).toNat : Int) = _
 rw [BitVec.ofInt_natCast, BitVec.ofInt_natCast, BitVec.toNat_or, BitVec.toNat_ofNat, BitVec.toNat_ofNat, Nat.mod_eq_of_lt (by omega), Nat.mod_eq_of_lt (by omega)]
 have h2 : x * 128 ||| b = 128 * x + b := by
  have h3 := Nat.shiftLeft_add_eq_or_of_lt (b := b) (i := 7) (by omega) x
  rw [Nat.shiftLeft_eq, show (2 : Nat) ^ 7 = 128 by decide] at h3
  omega
 rw [h2]
 exact wrap_id (by omega)
set_option maxHeartbeats 1000000 in
theorem pback_gen (b : Bs) (p : Nat) (hb : b.length ≤ 1000000) (hp : p ≤ 1000000) {E : Env} (hN : E.N ≤ 1000000) (Q : KQ)
    (hret : (backP b p).2.2 = 0 → Q.ap .ret ⟨[(2, .int .i64 ((backP b p).1 : Nat)), (2000000, .vptr 143032 0)], rdP b (backP b p).2.1⟩)
    (hdie : ∀ st, (backP b p).2.2 ≠ 0 → Q.ap (.panic (pan (wrongP (backP b p).2.2))) st) :
    vcW Tryz.prog E Cod.pback Q ⟨[(0, .vptr 143032 0), (2000000, .vptr 143032 0)], rdP b p⟩ := by
 generalize hH : backP b p = H at *
 by_cases h0 : b.length ≤ p
 ·rw [backP, backL_end b h0] at hH
  subst hH
  simp (disch := omega) only [go_sem, simprocAttr]
  refine dc_die (rdP b p) (pbyte_die b p (by omega) hb h0) (by simp (disch := omega) only [go_sem, simprocAttr, rdP]) ?_
  exact hdie _ (by decide)
 ·rw [backP, show b.length + 1 - p = (b.length - p) + 1 by omega, backL_succ, if_neg h0] at hH
  have hu := (b.getD p 0).toNat_lt
  have hby := pbyte_ok b p hb (by omega)
  generalize (b.getD p 0).toNat = c at *
  have hk : bits .and .i64 (c : Int) 127 = ((c % 128 : Nat) : Int) := and_i64 (n := 7) (by omega) (by decide)
  simp (disch := omega) only [go_sem, simprocAttr]
  refine dc_ret ?_
  refine call_win (rdP b p) hby (by simp (disch := omega) only [go_sem, simprocAttr, rdP]) nofun ?_
  rintro h' v ar ⟨rfl, rfl, rfl⟩
  refine ⟨by simp (disch := omega) only [go_sem, simprocAttr, rdP], rfl, ?_⟩
  simp (disch := omega) only [go_sem, simprocAttr, hk]
  refine vcW_loop hN (fun q : Nat × Nat × Nat => ⟨[(0, .vptr 143032 0), (2, .int .i64 0), (3, .int .i64 q.2.2), (4, .int .i64 q.2.1), (2000000, .vptr 143032 0)], rdP b q.1⟩)
   (fun q => q.1 ≤ 1000001 ∧ q.2.1 < 4294967296 ∧ q.2.2 < 256 ∧ (if q.2.2 < 128 then H = (q.2.1, q.1, 0) else if 16777216 < q.2.1 then H = (0, 0, 3) else ∃ k, b.length - q.1 < k ∧ backL b k q.1 ((q.2.1 + 1) * 128) = H))
   (fun q => b.length + 1 - q.1) (p + 1, c % 128, c) (.le (by simp (disch := omega) only [go_sem, simprocAttr, rdP])) ⟨by simp only; omega, by simp only; omega, hu, by
    simp only
    by_cases hc : c < 128
    ·rw [if_pos hc, Nat.zero_add] at hH; rw [if_pos hc]; exact hH.symm
    ·rw [if_neg hc, Nat.zero_add] at hH
     rw [if_neg hc]
     by_cases hg : 16777216 < c % 128
     ·omega
     ·rw [if_neg hg] at hH ⊢
      exact ⟨_, by omega, hH⟩⟩ ?_
  clear hH hby hk
  rintro ⟨p2, n, d⟩ R1 ⟨hp2, hn, hd, hH⟩ hR1
  simp only at hp2 hn hd hH
  by_cases hc : d < 128
  ·rw [if_pos hc] at hH
   subst hH
   have hret := hret rfl
   simp only [rdP] at hret
   simp (disch := omega) only [go_sem, simprocAttr, rdP]
   exact hret
  ·rw [if_neg hc] at hH
   by_cases hg : 16777216 < n
   ·rw [if_pos hg] at hH
    subst hH
    simp (disch := omega) only [go_sem, simprocAttr, rdP]
    exact hdie _ (by decide)
   ·rw [if_neg hg] at hH
    obtain ⟨k, hk, hH⟩ := hH
    by_cases hend : b.length ≤ p2
    ·rw [backL_end b hend] at hH
     subst hH
     simp (disch := omega) only [go_sem, simprocAttr, rdP]
     refine dc_die (rdP b p2) (pbyte_die b p2 (by omega) hb hend) (by simp (disch := omega) only [go_sem, simprocAttr, rdP]) ?_
     exact hdie _ (by decide)
    ·have hby := pbyte_ok b p2 hb (by omega)
     have hu := (b.getD p2 0).toNat_lt
     obtain ⟨k, rfl⟩ : ∃ k', k = k' + 1 := ⟨k - 1, by omega⟩
     rw [backL_succ, if_neg hend] at hH
     generalize (b.getD p2 0).toNat = x at *
     have hk2 : bits .and .i64 (x : Int) 127 = ((x % 128 : Nat) : Int) := and_i64 (n := 7) (by omega) (by decide)
     have ho := or_7 (x := n + 1) (b := x % 128) (by omega) (Nat.mod_lt _ (by decide))
     have e1 : ((n + 1 : Nat) : Int) = (n : Int) + 1 := by omega
     rw [e1] at ho
     have e2 : (n + 1) * 128 + x % 128 = 128 * (n + 1) + x % 128 := by omega
     rw [e2] at hH
     simp (disch := omega) only [go_sem, simprocAttr, rdP]
     refine dc_ret ?_
     refine call_win (rdP b p2) hby (by simp (disch := omega) only [go_sem, simprocAttr, rdP]) nofun ?_
     rintro h' v ar ⟨rfl, rfl, rfl⟩
     refine ⟨by simp (disch := omega) only [go_sem, simprocAttr, rdP], rfl, ?_⟩
     simp (disch := omega) only [go_sem, simprocAttr, hk2, ho]
     have hz : 128 * (n + 1) + x % 128 < 4294967296 := by omega
     generalize 128 * (n + 1) + x % 128 = z at *
     refine hR1 (p2 + 1, z, x) _ (by simp only; omega) ⟨by simp only; omega, hz, hu, ?_⟩ (.le ?_)
     ·simp only
      by_cases hx : x < 128
      ·rw [if_pos hx] at hH ⊢; exact hH.symm
      ·rw [if_neg hx] at hH ⊢
       by_cases hg2 : 16777216 < z
       ·rw [if_pos hg2] at hH ⊢; exact hH.symm
       ·rw [if_neg hg2] at hH ⊢; exact ⟨k, by omega, hH⟩
     ·simp (disch := omega) only [go_sem, simprocAttr, rdP]
theorem pback_ok (b : Bs) (p : Nat) (hb : b.length ≤ 1000000) (hp : p ≤ 1000000) (he : (backP b p).2.2 = 0) : Eng.Spec Tryz.prog 25 (rdP b p) [.vptr 143032 0]
    (fun h' v ar => h' = rdP b (backP b p).2.1 ∧ v = .int .i64 ((backP b p).1 : Nat) ∧ ar = [.vptr 143032 0]) := by
 refine Cod.pback_spec (fun E R hN hR => ?_)
 refine pback_gen b p hb hp hN _ (fun _ => ?_) (fun st h => absurd he h)
 simp (disch := omega) only [go_sem, simprocAttr, rdP]
 exact hR.le (by simp (disch := omega) only [go_sem, simprocAttr, rdP]) ⟨rfl, rfl, rfl⟩
theorem pback_die (b : Bs) (p : Nat) (hb : b.length ≤ 1000000) (hp : p ≤ 1000000) (he : (backP b p).2.2 ≠ 0) : Eng.SpecDies Tryz.prog 25 (rdP b p) [.vptr 143032 0] (wrongP (backP b p).2.2) := by
 refine Cod.pback_dies (fun E hN => ?_)
 exact pback_gen b p hb hp hN _ (fun h => absurd h he) (fun st _ => of_eq_true kqDies_p)
set_option maxHeartbeats 1000000 in
theorem rback11_ok (b : Bs) (p : Nat) (hb : b.length ≤ 1000000) (hp : p ≤ 1000000) : SpecR Tryz.prog 30 [.str b, .int .i64 p] (.tup [.int .i64 ((backP b p).1 : Nat), .int .i64 ((backP b p).2.1 : Nat), .int .i64 ((backP b p).2.2 : Nat)]) := by
 refine Cod.rback11_spec (fun E R hN hR => ?_)
 generalize hH : backP b p = H at *
 have hH : ∃ k, b.length - p < k ∧ backL b k p 0 = H := by
  by_cases hpb : p ≤ b.length
  ·exact ⟨b.length + 1 - p, by omega, hH⟩
  ·refine ⟨1, by omega, ?_⟩
   rw [← hH, backP, backL_end b (by omega), backL_end b (by omega)]
 simp (disch := omega) only [go_sem, simprocAttr]
 refine vcW_loop hN (fun q : Nat × Nat => ⟨[(0, .str b), (1, .int .i64 p), (7, .int .i64 q.2), (8, .int .i64 q.1)], []⟩)
  (fun q => q.1 ≤ b.length ∧ q.2 < 4294967296 ∧ (if q.1 = 0 then q.2 = 0 else if 16777216 < q.2 then H = (0, 0, 3) else ∃ k, b.length - (p + q.1) < k ∧ backL b k (p + q.1) ((q.2 + 1) * 128) = H))
  (fun q => b.length + 1 - q.1) (0, 0) (.le (by simp (disch := omega) only [go_sem, simprocAttr])) ⟨by simp, by simp, by simp⟩ ?_
 rintro ⟨i, n⟩ R1 ⟨hi, hn, hI⟩ hR1
 simp only at hi hn hI
 simp (disch := omega) only [go_sem, simprocAttr]
 refine vcW_cut (y := Cod.rback11_8) hN (fun m : Nat => ⟨[(0, .str b), (1, .int .i64 p), (7, .int .i64 m), (8, .int .i64 i)], []⟩) (fun m => m < 4000000000 ∧ ∃ k, b.length - (p + i) < k ∧ backL b k (p + i) m = H) (fun R2 hR2 => ?_) (fun m hm => ?_)
 ·by_cases h0 : i = 0
  ·subst h0
   rw [if_pos rfl] at hI
   subst hI
   simp (disch := omega) only [go_sem, simprocAttr]
   exact hR2 0 _ ⟨by decide, hH⟩ (.le (by simp (disch := omega) only [go_sem, simprocAttr]))
  ·rw [if_neg h0] at hI
   have hi0 : (0 : Int) < (i : Int) := by omega
   by_cases hg : 16777216 < n
   ·rw [if_pos hg] at hI
    subst hI
    simp (disch := omega) only [go_sem, simprocAttr, hi0]
    exact hR.ro ⟨rfl, rfl⟩
   ·rw [if_neg hg] at hI
    simp (disch := omega) only [go_sem, simprocAttr, hi0]
    exact hR2 ((n + 1) * 128) _ ⟨by omega, hI⟩ (.le (by simp (disch := omega) only [go_sem, simprocAttr]))
 ·obtain ⟨hml, k, hk, hI⟩ := hm
  by_cases hend : b.length ≤ p + i
  ·rw [backL_end b hend] at hI
   subst hI
   have hc : (b.length : Int) ≤ (p : Int) + (i : Int) := by omega
   simp (disch := omega) only [go_sem, simprocAttr, hc]
   exact hR.ro ⟨rfl, rfl⟩
  ·have hc : ¬ (b.length : Int) ≤ (p : Int) + (i : Int) := by omega
   obtain ⟨k, rfl⟩ : ∃ k', k = k' + 1 := ⟨k - 1, by omega⟩
   rw [backL_succ, if_neg hend] at hI
   have hu := (b.getD (p + i) 0).toNat_lt
   have et : ((p : Int) + (i : Int)).toNat = p + i := by omega
   generalize hx : (b.getD (p + i) 0).toNat = x at *
   have em : (x : Int).tmod 128 = ((x % 128 : Nat) : Int) := by rw [tmod_pos (by omega)]; omega
   by_cases h8 : x < 128
   ·rw [if_pos h8] at hI
    subst hI
    simp (disch := omega) only [go_sem, simprocAttr, hc, et, hx, em]
    exact hR.ro ⟨rfl, rfl⟩
   ·rw [if_neg h8] at hI
    simp (disch := omega) only [go_sem, simprocAttr, hc, et, hx, em]
    refine hR1 (i + 1, m + x % 128) _ (by simp only; omega) ⟨by simp only; omega, by simp only; omega, ?_⟩ (.le (by simp (disch := omega) only [go_sem, simprocAttr]))
    simp only
    rw [if_neg (by omega)]
    by_cases hg : 16777216 < m + x % 128
    ·rw [if_pos hg] at hI ⊢; exact hI.symm
    ·rw [if_neg hg] at hI ⊢; exact ⟨k, by omega, hI⟩
def combP (k : Nat) (r : Nat × Nat × Nat) : Nat × Nat × Nat × Nat := if r.2.2 ≠ 0 then (0, 0, 0, r.2.2) else (k, r.1, r.2.1, 0)
abbrev tup4 (H : Nat × Nat × Nat × Nat) : AV := .tup [.int .i64 (H.1 : Nat), .int .i64 (H.2.1 : Nat), .int .i64 (H.2.2.1 : Nat), .int .i64 (H.2.2.2 : Nat)]
set_option maxHeartbeats 1000000 in
theorem rhead11_ok (b : Bs) (p : Nat) (hb : b.length ≤ 1000000) (hp : p ≤ 1000000) : SpecR Tryz.prog 29 [.str b, .int .i64 p] (tup4 (headP b p)) := by
 refine Cod.rhead11_spec (fun E R hN hR => ?_)
 generalize hH : headP b p = H at *
 unfold headP at hH
 simp (disch := omega) only [go_sem, simprocAttr]
 refine vcW_loop hN (fun q : Nat × Nat × Nat × Nat => ⟨[(0, .str b), (1, .int .i64 p), (8, .int .i64 q.2.1), (9, .int .i64 q.2.2.1), (10, .int .i64 q.2.2.2), (11, .int .i64 q.1)], []⟩)
  (fun q => q.1 ≤ 5 ∧ q.2.2.1 < 4294967296 ∧ (if q.1 = 0 then q.2.1 = 0 ∧ q.2.2.1 = 0 else q.2.2.2 = 2 ^ (4 + 7 * (q.1 - 1)) ∧ q.2.2.1 < 2 ^ (4 + 7 * (q.1 - 1)) ∧ q.2.1 < 8 ∧ H = combP q.2.1 (headR b (5 - q.1) (p + q.1) q.2.2.1 (4 + 7 * (q.1 - 1)))))
  (fun q => 6 - q.1) (0, 0, 0, 1) (.le (by simp (disch := omega) only [go_sem, simprocAttr])) ⟨by simp, by simp, by simp⟩ ?_
 rintro ⟨i, kd, n, un⟩ R1 ⟨hi, hnl, hI⟩ hR1
 simp only at hi hnl hI
 by_cases hend : b.length ≤ p + i
 ·have hHe : H = (0, 0, 0, 6) := by
   by_cases h0 : i = 0
   ·subst h0
    rw [if_pos (show b.length ≤ p by omega)] at hH
    exact hH.symm
   ·rw [if_neg h0] at hI
    rw [hI.2.2.2]
    have hR0 : headR b (5 - i) (p + i) n (4 + 7 * (i - 1)) = (0, 0, 6) := by
     generalize 5 - i = m
     cases m with
     | zero => exact if_pos hend
     | succ m => exact if_pos hend
    rw [hR0]
    rfl
  subst hHe
  have hc : (b.length : Int) ≤ (p : Int) + (i : Int) := by omega
  simp (disch := omega) only [go_sem, simprocAttr, hc]
  exact hR.ro ⟨rfl, rfl⟩
 ·have hc : ¬ (b.length : Int) ≤ (p : Int) + (i : Int) := by omega
  by_cases h5 : i = 5
  ·subst h5
   rw [if_neg (by decide)] at hI
   have hHe : H = (0, 0, 0, 3) := by
    rw [hI.2.2.2, show headR b (5 - 5) (p + 5) n (4 + 7 * (5 - 1)) = (0, 0, 3) from if_neg hend]
    rfl
   subst hHe
   have hc5 : ¬ (b.length : Int) ≤ (p : Int) + 5 := by omega
   simp (disch := omega) only [go_sem, simprocAttr, hc5]
   exact hR.ro ⟨rfl, rfl⟩
  ·have hi5 : ¬ ((i : Int) = 5) := by omega
   have hu := (b.getD (p + i) 0).toNat_lt
   have et : ((p : Int) + (i : Int)).toNat = p + i := by omega
   generalize hx : (b.getD (p + i) 0).toNat = x at *
   have em : (x : Int).tmod 128 = ((x % 128 : Nat) : Int) := by rw [tmod_pos (by omega)]; omega
   have e16 : (x : Int).tmod 16 = ((x % 16 : Nat) : Int) := by rw [tmod_pos (by omega)]; omega
   have d16 : (x : Int).tdiv 16 = ((x / 16 : Nat) : Int) := by rw [tdiv_pos (by omega)]; omega
   have e8 : ((x / 16 : Nat) : Int).tmod 8 = ((x / 16 % 8 : Nat) : Int) := by rw [tmod_pos (by omega)]; omega
   simp (disch := omega) only [go_sem, simprocAttr, hc, hi5, et, hx]
   refine vcW_cut (y := Cod.rhead11_11) hN (fun q : Nat × Nat => ⟨[(0, .str b), (1, .int .i64 p), (8, .int .i64 q.1), (9, .int .i64 q.2), (10, .int .i64 (2 ^ (4 + 7 * i) : Nat)), (11, .int .i64 i), (12, .int .i64 x)], []⟩)
    (fun q => q.2 < 2 ^ (4 + 7 * i) ∧ q.1 < 8 ∧ (if x < 128 then H = (q.1, q.2, p + i + 1, 0) else H = combP q.1 (headR b (4 - i) (p + i + 1) q.2 (4 + 7 * i)))) (fun R2 hR2 => ?_) (fun q hq => ?_)
   ·by_cases h0 : i = 0
    ·subst h0
     rw [if_neg (show ¬ b.length ≤ p by omega)] at hH
     simp only [Nat.add_zero] at hx hH
     rw [hx] at hH
     simp (disch := omega) only [go_sem, simprocAttr, e16, d16, e8]
     refine hR2 (x / 16 % 8, x % 16) _ ⟨by simp only; omega, by simp only; omega, ?_⟩ (.le (by simp (disch := omega) only [go_sem, simprocAttr]))
     simp only
     by_cases h8 : x < 128
     ·rw [if_pos h8] at hH ⊢; exact hH.symm
     ·rw [if_neg h8] at hH ⊢; exact hH.symm
    ·have hi0 : ¬ ((i : Int) = 0) := by omega
     rw [if_neg h0] at hI
     obtain ⟨hun, hn, hkd, hHI⟩ := hI
     have hR0 : headR b (5 - i) (p + i) n (4 + 7 * (i - 1)) = if (b.getD (p + i) 0).toNat < 128 then (n + (b.getD (p + i) 0).toNat % 128 * 2 ^ (4 + 7 * (i - 1)), p + i + 1, 0) else headR b (4 - i) (p + i + 1) (n + (b.getD (p + i) 0).toNat % 128 * 2 ^ (4 + 7 * (i - 1))) (4 + 7 * (i - 1) + 7) := by
      rw [show 5 - i = (4 - i) + 1 by omega]
      exact if_neg hend
     rw [hR0, hx, show 4 + 7 * (i - 1) + 7 = 4 + 7 * i by omega] at hHI
     have hs : 2 ^ (4 + 7 * i) = 2 ^ (4 + 7 * (i - 1)) * 128 := by
      rw [show 4 + 7 * i = (4 + 7 * (i - 1)) + 7 by omega, Nat.pow_add]
     have hub : 2 ^ (4 + 7 * (i - 1)) ≤ 2 ^ 25 := Nat.pow_le_pow_right (by decide) (by omega)
     generalize 2 ^ (4 + 7 * (i - 1)) = u at *
     subst hun
     have hmul : x % 128 * un ≤ 127 * un := Nat.mul_le_mul_right _ (by omega)
     have hmi : ((x % 128 : Nat) : Int) * (un : Int) = ((x % 128 * un : Nat) : Int) := by push_cast; rfl
     generalize hw : x % 128 * un = w at *
     simp (disch := omega) only [go_sem, simprocAttr, hi0, em, hmi]
     refine hR2 (kd, n + w) _ ⟨by simp only; omega, hkd, ?_⟩ (.le (by rw [hs]; simp (disch := omega) only [go_sem, simprocAttr]))
     simp only
     by_cases h8 : x < 128
     ·rw [if_pos h8] at hHI ⊢; rw [hHI]; rfl
     ·rw [if_neg h8] at hHI ⊢; exact hHI
   ·obtain ⟨kd2, n2⟩ := q
    obtain ⟨g1, g2, g3⟩ := hq
    simp only at g1 g2 g3 ⊢
    have hub : 2 ^ (4 + 7 * i) ≤ 2 ^ 32 := Nat.pow_le_pow_right (by decide) (by omega)
    by_cases h8 : x < 128
    ·rw [if_pos h8] at g3
     subst g3
     simp (disch := omega) only [go_sem, simprocAttr]
     exact hR.ro ⟨rfl, rfl⟩
    ·rw [if_neg h8] at g3
     simp (disch := omega) only [go_sem, simprocAttr]
     refine hR1 (i + 1, kd2, n2, 2 ^ (4 + 7 * i)) _ (by simp only; omega) ⟨by simp only; omega, by simp only; omega, ?_⟩ (.le (by simp (disch := omega) only [go_sem, simprocAttr]))
     simp only
     rw [if_neg (by omega), Nat.add_sub_cancel]
     exact ⟨rfl, g1, g2, by rw [g3, show 5 - (i + 1) = 4 - i by omega, Nat.add_assoc]⟩
end Go.Proofs.YtjoefngnjoofeaaGreatDoor.Pk
namespace Go.Proofs.YtjoefngnjoofeaaGreatDoor.Pk
open Eng Sh
set_option maxRecDepth 10000
structure En where
 at_ : Nat
 next : Nat
 kind : Nat
 data : Bs
 base : Nat
 id : Bs
 crc : W
def en0 : En := ⟨0, 0, 0, [], 0, [], 0#32⟩
def enL (e : En) : List AV := [.int .i64 e.at_, .int .i64 e.next, .int .i64 e.kind, .str e.data, .int .i64 e.base, .str e.id, .int .u32 e.crc.toNat]
def midE (b : Bs) (p k q : Nat) : Nat × Bs × Nat × Nat :=
 if 1 ≤ k ∧ k ≤ 4 then (0, [], q, 0) else
 if k = 6 then (if (backP b q).2.2 ≠ 0 then (0, [], 0, (backP b q).2.2) else if (backP b q).1 < 1 ∨ p - 12 < (backP b q).1 then (0, [], 0, 3) else (p - (backP b q).1, [], (backP b q).2.1, 0)) else
 if k = 7 then (if b.length - q < 20 then (0, [], 0, 6) else (0, hexOf ((b.drop q).take 20), q + 20, 0)) else (0, [], 0, 10)
def endE (b : Bs) (p : Nat) (k size : Nat) (M : Nat × Bs × Nat × Nat) : En × Nat :=
 if M.2.2.2 ≠ 0 then (en0, M.2.2.2) else if 65000 < size then (en0, 2) else
 if (zlibS (b.drop M.2.2.1) size).2.2 = 2 ∨ ((zlibS (b.drop M.2.2.1) size).2.2 = 0 ∧ (zlibS (b.drop M.2.2.1) size).1.length < size) then (en0, 3) else
 if (zlibS (b.drop M.2.2.1) size).2.2 ≠ 0 then (en0, (zlibS (b.drop M.2.2.1) size).2.2) else
 (⟨p, M.2.2.1 + (zlibS (b.drop M.2.2.1) size).2.1, k, (zlibS (b.drop M.2.2.1) size).1, M.1, M.2.1, crcT ((b.drop p).take (M.2.2.1 + (zlibS (b.drop M.2.2.1) size).2.1 - p))⟩, 0)
def readE (b : Bs) (p : Nat) : En × Nat :=
 if (headP b p).2.2.2 ≠ 0 then (en0, (headP b p).2.2.2) else endE b p (headP b p).1 (headP b p).2.1 (midE b p (headP b p).1 (headP b p).2.2.1)
def readP (s : Bs) (a : Int) : En × Nat := if a < 12 ∨ (s.length : Int) - 20 < a then (en0, 1) else readE (s.take (s.length - 20)) a.toNat
theorem headR_le (b : Bs) : ∀ (m p size sh : Nat), (headR b m p size sh).2.2 = 0 → (headR b m p size sh).2.1 ≤ b.length ∧ p < (headR b m p size sh).2.1
 | 0, p, size, sh => by
  unfold headR
  split <;> intro h <;> cases h
 | m + 1, p, size, sh => by
  unfold headR
  split
  ·intro h; cases h
  ·split
   ·intro _; simp only; omega
   ·intro h
    have := headR_le b m _ _ _ h
    omega
theorem headR_size (b : Bs) : ∀ (m p size sh : Nat), size < 2 ^ sh → (headR b m p size sh).1 < 2 ^ (sh + 7 * m)
 | 0, p, size, sh => by
  intro _
  unfold headR
  split <;> exact Nat.pow_pos (by decide)
 | m + 1, p, size, sh => by
  intro hs
  have h2 : ∀ x, size + x % 128 * 2 ^ sh < 2 ^ (sh + 7) := by
   intro x
   have h1 : x % 128 ≤ 127 := by omega
   have h2 : x % 128 * 2 ^ sh ≤ 127 * 2 ^ sh := Nat.mul_le_mul_right _ h1
   rw [Nat.pow_add]
   omega
  unfold headR
  split
  ·exact Nat.pow_pos (by decide)
  ·split
   ·refine Nat.lt_of_lt_of_le (h2 _) (Nat.pow_le_pow_right (by decide) (by omega))
   ·have := headR_size b m (p + 1) _ (sh + 7) (h2 (b.getD p 0).toNat)
    rw [show sh + 7 + 7 * m = sh + 7 * (m + 1) by omega] at this
    exact this
theorem headP_le (b : Bs) (p : Nat) (h : (headP b p).2.2.2 = 0) : (headP b p).2.2.1 ≤ b.length ∧ p < (headP b p).2.2.1 ∧ (headP b p).1 < 8 ∧ (headP b p).2.1 < 4294967296 := by
 unfold headP at h ⊢
 split at h
 ·cases h
 ·rename_i h0
  rw [if_neg h0]
  have hu := (b.getD p 0).toNat_lt
  split at h
  ·rename_i h1
   rw [if_pos h1]
   simp only
   omega
  ·rename_i h1
   rw [if_neg h1]
   split at h
   ·rename_i h2; exact (h2 h).elim
   ·rename_i h2
    rw [if_neg h2]
    have h3 := headR_le b 4 (p + 1) ((b.getD p 0).toNat % 16) 4 (by simpa using h2)
    have h4 := headR_size b 4 (p + 1) ((b.getD p 0).toNat % 16) 4 (by omega)
    simp only
    have h5 : 2 ^ (4 + 7 * 4) = 4294967296 := by decide
    omega
theorem backL_le (b : Bs) : ∀ (k p n : Nat), (backL b k p n).2.2 = 0 → (backL b k p n).2.1 ≤ b.length ∧ p < (backL b k p n).2.1
 | 0, p, n => by intro h; cases h
 | k + 1, p, n => by
  rw [backL_succ]
  split
  ·intro h; cases h
  ·split
   ·intro _; simp only; omega
   ·split
    ·intro h; cases h
    ·intro h
     have := backL_le b k _ _ h
     omega
theorem backL_size (b : Bs) : ∀ (k p n : Nat), n ≤ 2147483776 → (backL b k p n).1 < 4294967296
 | 0, p, n, _ => by show 0 < _; decide
 | k + 1, p, n, hn => by
  rw [backL_succ]
  split
  ·decide
  ·split
   ·simp only; omega
   ·split
    ·decide
    ·exact backL_size b k _ _ (by omega)
theorem back_size (b : Bs) (q : Nat) (h : (backP b q).2.2 = 0) : (backP b q).1 < 4294967296 := backL_size b _ _ _ (by decide)
theorem mid_le (b : Bs) (p k q : Nat) (hq : q ≤ b.length) (h : (midE b p k q).2.2.2 = 0) : (midE b p k q).2.2.1 ≤ b.length ∧ q ≤ (midE b p k q).2.2.1 := by
 unfold midE at h ⊢
 split at h
 ·rename_i h1; rw [if_pos h1]; exact ⟨hq, Nat.le_refl _⟩
 ·rename_i h1
  rw [if_neg h1]
  split at h
  ·rename_i h2
   rw [if_pos h2]
   split at h
   ·rename_i h3; exact (h3 h).elim
   ·rename_i h3
    rw [if_neg h3]
    have := backL_le b _ _ _ (by simpa [backP] using h3)
    split at h
    ·cases h
    ·rename_i h4; rw [if_neg h4]; simp only [backP]; omega
  ·rename_i h2
   rw [if_neg h2]
   split at h
   ·rename_i h3
    rw [if_pos h3]
    split at h
    ·cases h
    ·rename_i h4; rw [if_neg h4]; simp only; omega
   ·cases h
theorem pdie {st : St} {R : HP → AV → List AV → Prop} {t : TypeId} {n : Int} {e : Nat} (cs0 : List AV) (x1 : AV) (hn : n = (e : Nat)) (has : ghV st 2 2 = [.vptr 143004 0, .vptr 143005 0]) (hsub : leH st.h [(143004, .var cs0), (143005, .var [x1])])
    (h : (KQ.post [.cell 4 true 7, .cell 5 false 1] 2 R).ap .ret (afterG st 2 2 [(143004, .var cs0), (143005, .var [x1])] [(143005, .var [.int .i64 (e : Nat)]), (143004, .var zeroC)])) (hc0 : cs0.length = 7 := by rfl) (ht : t = 61 := by rfl) :
    (KQ.gC Tryz.prog [.cell 4 true 7, .cell 5 false 1] 2 2 23 R).ap (.panic (pan (.iface t (.int .i64 n)))) st := by
 subst hn ht
 exact gC_of [(143004, .var cs0), (143005, .var [x1])] [(143005, .var [.int .i64 (e : Nat)]), (143004, .var zeroC)] has (pguard_rec e 143004 143005 cs0 x1 (by decide) hc0) rfl hsub h
set_option maxHeartbeats 1000000 in
theorem pread_ok (s : Bs) (a : Int) (hs : s.length ≤ 1000000) (ha : -9223372036854775808 ≤ a ∧ a ≤ 9223372036854775807) : SpecR Tryz.prog 8 [.str s, .int .i64 a] (.tup [.agg (enL (readP s a).1), .int .i64 ((readP s a).2 : Nat)]) := by
 refine Cod.pread_spec pguard_idle (fun E R N hN hN2 hR => ?_)
 unfold readP at hR
 by_cases h12 : a < 12
 ·rw [if_pos (.inl h12)] at hR
  simp (disch := omega) only [go_sem, simprocAttr]
  (repeat (first | refine gskip_of ?_ | refine gcskip_of ?_ | refine gopen_of ?_) <;> simp (disch := omega) only [go_sem, simprocAttr])
  exact hR.ro ⟨rfl, rfl⟩
 ·by_cases hbig : (s.length : Int) - 20 < a
  ·rw [if_pos (.inr hbig)] at hR
   simp (disch := omega) only [go_sem, simprocAttr]
   (repeat (first | refine gskip_of ?_ | refine gcskip_of ?_ | refine gopen_of ?_) <;> simp (disch := omega) only [go_sem, simprocAttr])
   exact hR.ro ⟨rfl, rfl⟩
  ·rw [if_neg (by omega)] at hR
   obtain ⟨p, rfl⟩ : ∃ p : Nat, a = (p : Int) := ⟨a.toNat, by omega⟩
   rw [Int.toNat_natCast] at hR
   simp (disch := omega) only [go_sem, simprocAttr]
   (repeat (first | refine gskip_of ?_ | refine gcskip_of ?_ | refine gopen_of ?_) <;> simp (disch := omega) only [go_sem, simprocAttr])
   have et : ((s.length : Int) - 20).toNat = s.length - 20 := by omega
   refine dC_of (fun E' hN' => ?_) hN2
   have hbl : (s.take (s.length - 20)).length = s.length - 20 := by rw [List.length_take]; omega
   generalize hbb : s.take (s.length - 20) = b at *
   simp (disch := omega) only [go_sem, simprocAttr, et, hbb]
   unfold readE at hR
   by_cases hhe : (headP b p).2.2.2 = 0
   ·rw [if_neg (by simpa using hhe)] at hR
    have hle := headP_le b p hhe
    have hk := phead_ok b p (by omega) (by omega) hhe
    generalize headP b p = H at *
    obtain ⟨k, size, q, he⟩ := H
    simp only at hle hk hR
    refine dc_ret ?_
    refine call_win (rdP b p) hk (by simp (disch := omega) only [go_sem, simprocAttr, rdP]) nofun ?_
    rintro h' v ar ⟨rfl, rfl, rfl⟩
    refine ⟨by simp (disch := omega) only [go_sem, simprocAttr, rdP], rfl, ?_⟩
    have hml := mid_le b p k q hle.1
    have hmd : midE b p k q = midE b p k q := rfl
    generalize hM : midE b p k q = M at hR hml
    simp (disch := omega) only [go_sem, simprocAttr, rdP]
    refine vcW_cut (y := Cod.pread_10) hN' (fun _ : Unit => ⟨[(1, .int .i64 p), (4, .vptr 143004 0), (5, .vptr 143005 0), (6, .str b), (7, .vptr 143032 0), (9, .int .i64 size), (2000002, .vptr 143004 0), (2000003, .vptr 143005 0)],
     [(143004, .var [.int .i64 p, .int .i64 0, .int .i64 k, .str [], .int .i64 M.1, .str M.2.1, .int .u32 0]), (143032, .var [.str b, .int .i64 M.2.2.1]), (143005, .var [.int .i64 0])]⟩) (fun _ => M.2.2.2 = 0) (fun R2 hR2 => ?_) (fun _ hM0 => ?_)
    ·-- between the head and the frame
     have hdz : ∀ e : Nat, e ≠ 0 → M.2.2.2 = e → (endE b p k size M) = (en0, e) := by
      intro e he0 he
      unfold endE
      rw [if_pos (by rw [he]; exact he0), he]
     have ksm : k < 8 := hle.2.2.1
     simp (disch := omega) only [go_sem, simprocAttr]
     refine vcW_cut (y := .cond (.t 44) .skip Cod.pread_31) hN' (fun _ : Unit => ⟨[(1, .int .i64 p), (4, .vptr 143004 0), (5, .vptr 143005 0), (6, .str b), (7, .vptr 143032 0), (9, .int .i64 size), (42, .int .i64 k), (44, .bool (decide (1 ≤ k ∧ k ≤ 4))), (2000002, .vptr 143004 0), (2000003, .vptr 143005 0)],
      [(143004, .var [.int .i64 p, .int .i64 0, .int .i64 k, .str [], .int .i64 0, .str [], .int .u32 0]), (143032, .var [.str b, .int .i64 q]), (143005, .var [.int .i64 0])]⟩) (fun _ => True) (fun R3 hR3 => ?_) (fun _ _ => ?_)
     ·by_cases k1 : k = 1
      ·subst k1
       simp (disch := omega) only [go_sem, simprocAttr]
       exact hR3 () _ trivial (.le (by simp (disch := omega) only [go_sem, simprocAttr]))
      ·by_cases k2 : k = 2
       ·subst k2
        simp (disch := omega) only [go_sem, simprocAttr]
        exact hR3 () _ trivial (.le (by simp (disch := omega) only [go_sem, simprocAttr]))
       ·by_cases k3 : k = 3
        ·subst k3
         simp (disch := omega) only [go_sem, simprocAttr]
         exact hR3 () _ trivial (.le (by simp (disch := omega) only [go_sem, simprocAttr]))
        ·by_cases k4 : k = 4
         ·subst k4
          simp (disch := omega) only [go_sem, simprocAttr]
          exact hR3 () _ trivial (.le (by simp (disch := omega) only [go_sem, simprocAttr]))
         ·have i1 : ¬ (k : Int) = 1 := by omega
          have i2 : ¬ (k : Int) = 2 := by omega
          have i3 : ¬ (k : Int) = 3 := by omega
          have i4 : ¬ (k : Int) = 4 := by omega
          rw [decide_eq_false (by omega)] at hR3
          simp (disch := omega) only [go_sem, simprocAttr, i1, i2, i3, i4]
          exact hR3 () _ trivial (.le (by simp (disch := omega) only [go_sem, simprocAttr]))
     ·unfold midE at hM
      by_cases kk : 1 ≤ k ∧ k ≤ 4
      ·rw [if_pos kk] at hM
       subst hM
       rw [decide_eq_true kk]
       simp (disch := omega) only [go_sem, simprocAttr]
       exact hR2 () _ rfl (.le (by simp (disch := omega) only [go_sem, simprocAttr]))
      ·rw [if_neg kk] at hM
       rw [decide_eq_false kk]
       by_cases k6 : k = 6
       ·rw [if_pos k6] at hM
        subst k6
        by_cases hbe : (backP b q).2.2 = 0
        ·rw [if_neg (by simpa using hbe)] at hM
         have hbk := pback_ok b q (by omega) (by omega) hbe
         have hbl := backL_le b _ _ _ hbe
         change (backP b q).2.1 ≤ b.length ∧ q < (backP b q).2.1 at hbl
         have hbs := back_size b q hbe
         generalize backP b q = B at *
         simp (disch := omega) only [go_sem, simprocAttr]
         refine dc_ret ?_
         refine call_win (rdP b q) hbk (by simp (disch := omega) only [go_sem, simprocAttr, rdP]) nofun ?_
         rintro h' v ar ⟨rfl, rfl, rfl⟩
         refine ⟨by simp (disch := omega) only [go_sem, simprocAttr, rdP], rfl, ?_⟩
         by_cases hb1 : B.1 < 1 ∨ p - 12 < B.1
         ·rw [if_pos hb1] at hM
          rw [hdz 3 (by decide) (by rw [← hM])] at hR
          by_cases hb2 : B.1 < 1
          ·have i1 : (B.1 : Int) < 1 := by omega
           simp (disch := omega) only [go_sem, simprocAttr, rdP, i1]
           (repeat (first | refine gskip_of ?_ | refine gcskip_of ?_ | refine gopen_of ?_) <;> simp (disch := omega) only [go_sem, simprocAttr, rdP, i1])
           refine pdie (t := 61) [.int .i64 p, .int .i64 0, .int .i64 6, .str [], .int .i64 0, .str [], .int .u32 0] (.int .i64 0) rfl ?_ ?_ ?_
           all_goals simp (disch := omega) only [go_sem, simprocAttr, zeroC]
           exact hR.ro ⟨rfl, rfl⟩
          ·have i1 : ¬ (B.1 : Int) < 1 := by omega
           have i2 : (p : Int) - 12 < (B.1 : Int) := by omega
           simp (disch := omega) only [go_sem, simprocAttr, rdP, i1, i2]
           (repeat (first | refine gskip_of ?_ | refine gcskip_of ?_ | refine gopen_of ?_) <;> simp (disch := omega) only [go_sem, simprocAttr, rdP, i1, i2])
           refine pdie (t := 61) [.int .i64 p, .int .i64 0, .int .i64 6, .str [], .int .i64 0, .str [], .int .u32 0] (.int .i64 0) rfl ?_ ?_ ?_
           all_goals simp (disch := omega) only [go_sem, simprocAttr, zeroC]
           exact hR.ro ⟨rfl, rfl⟩
         ·rw [if_neg hb1] at hM
          subst hM
          have i1 : ¬ (B.1 : Int) < 1 := by omega
          have i2 : ¬ (p : Int) - 12 < (B.1 : Int) := by omega
          have i3 : (p : Int) - (B.1 : Int) = ((p - B.1 : Nat) : Int) := by omega
          simp (disch := omega) only [go_sem, simprocAttr, rdP, i1, i2]
          (repeat (first | refine gskip_of ?_ | refine gcskip_of ?_ | refine gopen_of ?_) <;> simp (disch := omega) only [go_sem, simprocAttr, rdP, i1, i2])
          exact hR2 () _ rfl (.le (by rw [← i3]; simp (disch := omega) only [go_sem, simprocAttr]))
        ·rw [if_pos hbe] at hM
         have hd := pback_die b q (by omega) (by omega) hbe
         rw [hdz _ hbe (by rw [← hM])] at hR
         generalize backP b q = B at *
         simp (disch := omega) only [go_sem, simprocAttr]
         refine dc_die (rdP b q) hd (by simp (disch := omega) only [go_sem, simprocAttr, rdP]) ?_
         refine pdie (t := 61) [.int .i64 p, .int .i64 0, .int .i64 6, .str [], .int .i64 0, .str [], .int .u32 0] (.int .i64 0) rfl ?_ ?_ ?_
         all_goals simp (disch := omega) only [go_sem, simprocAttr, afterD_st, rdP, zeroC]
         exact hR.ro ⟨rfl, rfl⟩
       ·rw [if_neg k6] at hM
        have i6 : ¬ (k : Int) = 6 := by omega
        by_cases k7 : k = 7
        ·rw [if_pos k7] at hM
         subst k7
         by_cases h20 : b.length - q < 20
         ·rw [if_pos h20] at hM
          rw [hdz 6 (by decide) (by rw [← hM])] at hR
          have i1 : (b.length : Int) - (q : Int) < 20 := by omega
          simp (disch := omega) only [go_sem, simprocAttr, i1]
          refine pdie (t := 61) [.int .i64 p, .int .i64 0, .int .i64 7, .str [], .int .i64 0, .str [], .int .u32 0] (.int .i64 0) rfl ?_ ?_ ?_
          all_goals simp (disch := omega) only [go_sem, simprocAttr, zeroC]
          exact hR.ro ⟨rfl, rfl⟩
         ·rw [if_neg h20] at hM
          subst hM
          have i1 : ¬ (b.length : Int) - (q : Int) < 20 := by omega
          have e20 : q + 20 - q = 20 := by omega
          have ei : ((q : Int) + 20).toNat - q = 20 := by omega
          have hhx := hex_ok ((b.drop q).take 20) (by rw [List.length_take]; omega)
          simp (disch := omega) only [go_sem, simprocAttr, i1, e20, ei]
          refine call_ro hhx rfl rfl ?_
          simp (disch := omega) only [go_sem, simprocAttr]
          exact hR2 () _ rfl (.le (by simp (disch := omega) only [go_sem, simprocAttr]))
        ·rw [if_neg k7] at hM
         rw [hdz 10 (by decide) (by rw [← hM])] at hR
         have i7 : ¬ (k : Int) = 7 := by omega
         simp (disch := omega) only [go_sem, simprocAttr, i6, i7]
         refine pdie (t := 61) [.int .i64 p, .int .i64 0, .int .i64 k, .str [], .int .i64 0, .str [], .int .u32 0] (.int .i64 0) rfl ?_ ?_ ?_
         all_goals simp (disch := omega) only [go_sem, simprocAttr, zeroC]
         exact hR.ro ⟨rfl, rfl⟩
    ·unfold endE at hR
     rw [if_neg (by simpa using hM0)] at hR
     have hml := hml hM0
     by_cases hsz : 65000 < size
     ·rw [if_pos hsz] at hR
      simp (disch := omega) only [go_sem, simprocAttr]
      refine pdie (t := 61) [.int .i64 p, .int .i64 0, .int .i64 k, .str [], .int .i64 M.1, .str M.2.1, .int .u32 0] (.int .i64 0) rfl ?_ ?_ ?_
      all_goals simp (disch := omega) only [go_sem, simprocAttr, zeroC]
      exact hR.ro ⟨rfl, rfl⟩
     ·rw [if_neg hsz] at hR
      have hz := zread_ok b M.2.2.1 size (by omega) (by omega) (by omega)
      have hzl := zlib_len (b.drop M.2.2.1) size
      rw [List.length_drop] at hzl
      generalize zlibS (b.drop M.2.2.1) size = Z at *
      simp (disch := omega) only [go_sem, simprocAttr]
      refine call_ro hz rfl rfl ?_
      simp (disch := omega) only [go_sem, simprocAttr]
      refine vcW_cut (y := Cod.pread_13) hN' (fun _ : Unit => ⟨[(1, .int .i64 p), (4, .vptr 143004 0), (5, .vptr 143005 0), (6, .str b), (7, .vptr 143032 0), (11, .str Z.1), (12, .int .i64 Z.2.1), (2000002, .vptr 143004 0), (2000003, .vptr 143005 0)],
       [(143005, .var [.int .i64 (if Z.2.2 = 2 ∨ (Z.2.2 = 0 ∧ Z.1.length < size) then 3 else Z.2.2 : Nat)]), (143004, .var [.int .i64 p, .int .i64 0, .int .i64 k, .str [], .int .i64 M.1, .str M.2.1, .int .u32 0]), (143032, .var [.str b, .int .i64 M.2.2.1])]⟩) (fun _ => True) (fun R3 hR3 => ?_) (fun _ _ => ?_)
      ·by_cases z2 : Z.2.2 = 2
       ·rw [if_pos (.inl z2)] at hR3
        have i1 : (Z.2.2 : Int) = 2 := by omega
        simp (disch := omega) only [go_sem, simprocAttr, i1]
        (repeat (first | refine gskip_of ?_ | refine gcskip_of ?_ | refine gopen_of ?_) <;> simp (disch := omega) only [go_sem, simprocAttr, i1])
        exact hR3 () _ trivial (.le (by simp (disch := omega) only [go_sem, simprocAttr]))
       ·have i1 : ¬ (Z.2.2 : Int) = 2 := by omega
        by_cases z0 : Z.2.2 = 0
        ·have i2 : (Z.2.2 : Int) = 0 := by omega
         by_cases zl : Z.1.length < size
         ·rw [if_pos (.inr ⟨z0, zl⟩)] at hR3
          simp (disch := omega) only [go_sem, simprocAttr, i1, i2]
          (repeat (first | refine gskip_of ?_ | refine gcskip_of ?_ | refine gopen_of ?_) <;> simp (disch := omega) only [go_sem, simprocAttr, i1, i2])
          exact hR3 () _ trivial (.le (by simp (disch := omega) only [go_sem, simprocAttr]))
         ·rw [if_neg (by omega), z0] at hR3
          simp (disch := omega) only [go_sem, simprocAttr, i1, i2]
          (repeat (first | refine gskip_of ?_ | refine gcskip_of ?_ | refine gopen_of ?_) <;> simp (disch := omega) only [go_sem, simprocAttr, i1, i2])
          exact hR3 () _ trivial (.le (by simp (disch := omega) only [go_sem, simprocAttr]))
        ·have i2 : ¬ (Z.2.2 : Int) = 0 := by omega
         rw [if_neg (by omega)] at hR3
         simp (disch := omega) only [go_sem, simprocAttr, i1, i2]
         (repeat (first | refine gskip_of ?_ | refine gcskip_of ?_ | refine gopen_of ?_) <;> simp (disch := omega) only [go_sem, simprocAttr, i1, i2])
         exact hR3 () _ trivial (.le (by simp (disch := omega) only [go_sem, simprocAttr]))
      ·by_cases zz : Z.2.2 = 2 ∨ (Z.2.2 = 0 ∧ Z.1.length < size)
       ·rw [if_pos zz] at hR ⊢
        simp (disch := omega) only [go_sem, simprocAttr]
        refine pdie (t := 61) [.int .i64 p, .int .i64 0, .int .i64 k, .str [], .int .i64 M.1, .str M.2.1, .int .u32 0] (.int .i64 3) rfl ?_ ?_ ?_
        all_goals simp (disch := omega) only [go_sem, simprocAttr, zeroC]
        exact hR.ro ⟨rfl, rfl⟩
       ·rw [if_neg zz] at hR ⊢
        by_cases z0 : Z.2.2 = 0
        ·rw [if_neg (by simpa using z0)] at hR
         have hcr := crc32_ok ((b.drop p).take (M.2.2.1 + Z.2.1 - p)) (by rw [List.length_take, List.length_drop]; omega)
         have et2 : ((M.2.2.1 : Int) + (Z.2.1 : Int)).toNat - p = M.2.2.1 + Z.2.1 - p := by omega
         rw [z0]
         simp (disch := omega) only [go_sem, simprocAttr, et2]
         refine call_ro hcr rfl rfl ?_
         simp (disch := omega) only [go_sem, simprocAttr]
         exact hR.ro ⟨rfl, rfl⟩
        ·rw [if_pos z0] at hR
         have i2 : ¬ (Z.2.2 : Int) = 0 := by omega
         simp (disch := omega) only [go_sem, simprocAttr, i2]
         refine pdie (t := 61) [.int .i64 p, .int .i64 0, .int .i64 k, .str [], .int .i64 M.1, .str M.2.1, .int .u32 0] (.int .i64 (Z.2.2 : Nat)) rfl ?_ ?_ ?_
         all_goals simp (disch := omega) only [go_sem, simprocAttr, zeroC]
         exact hR.ro ⟨rfl, rfl⟩
   ·rw [if_pos hhe] at hR
    have hd := phead_die b p (by omega) (by omega) hhe
    generalize headP b p = H at *
    refine dc_die (rdP b p) hd (by simp (disch := omega) only [go_sem, simprocAttr, rdP]) ?_
    refine pdie (t := 61) [.int .i64 p, .int .i64 0, .int .i64 0, .str [], .int .i64 0, .str [], .int .u32 0] (.int .i64 0) rfl ?_ ?_ ?_
    all_goals simp (disch := omega) only [go_sem, simprocAttr, afterD_st, rdP, zeroC]
    exact hR.ro ⟨rfl, rfl⟩
end Go.Proofs.YtjoefngnjoofeaaGreatDoor.Pk
namespace Go.Proofs.YtjoefngnjoofeaaGreatDoor.Pk
open Eng Sh
set_option maxRecDepth 10000
set_option maxHeartbeats 1000000 in
theorem rread11_ok (s : Bs) (a : Int) (hs : s.length ≤ 1000000) (ha : -9223372036854775808 ≤ a ∧ a ≤ 9223372036854775807) : SpecR Tryz.prog 9 [.str s, .int .i64 a] (.tup [.agg (enL (readP s a).1), .int .i64 ((readP s a).2 : Nat)]) := by
 refine Cod.rread11_spec (fun E R hN hR => ?_)
 unfold readP at hR
 by_cases h12 : a < 12
 ·rw [if_pos (.inl h12)] at hR
  simp (disch := omega) only [go_sem, simprocAttr]
  (repeat (first | refine gskip_of ?_ | refine gcskip_of ?_ | refine gopen_of ?_) <;> simp (disch := omega) only [go_sem, simprocAttr])
  exact hR.ro ⟨rfl, rfl⟩
 ·by_cases hbig : (s.length : Int) - 20 < a
  ·rw [if_pos (.inr hbig)] at hR
   simp (disch := omega) only [go_sem, simprocAttr]
   (repeat (first | refine gskip_of ?_ | refine gcskip_of ?_ | refine gopen_of ?_) <;> simp (disch := omega) only [go_sem, simprocAttr])
   exact hR.ro ⟨rfl, rfl⟩
  ·rw [if_neg (by omega)] at hR
   obtain ⟨p, rfl⟩ : ∃ p : Nat, a = (p : Int) := ⟨a.toNat, by omega⟩
   rw [Int.toNat_natCast] at hR
   have et : ((s.length : Int) - 20).toNat = s.length - 20 := by omega
   have hbl : (s.take (s.length - 20)).length = s.length - 20 := by rw [List.length_take]; omega
   generalize hbb : s.take (s.length - 20) = b at *
   simp (disch := omega) only [go_sem, simprocAttr]
   (repeat (first | refine gskip_of ?_ | refine gcskip_of ?_ | refine gopen_of ?_) <;> simp (disch := omega) only [go_sem, simprocAttr])
   simp (disch := omega) only [go_sem, simprocAttr, et, hbb]
   unfold readE at hR
   have hk := rhead11_ok b p (by omega) (by omega)
   have hle := headP_le b p
   generalize headP b p = H at *
   refine call_ro hk rfl rfl ?_
   by_cases hhe : H.2.2.2 = 0
   ·rw [if_neg (by simpa using hhe)] at hR
    replace hle := hle hhe
    obtain ⟨k, size, q, he⟩ := H
    simp only at hle hhe hR
    subst hhe
    have hml := mid_le b p k q hle.1
    generalize hM : midE b p k q = M at hR hml
    simp (disch := omega) only [go_sem, simprocAttr]
    refine vcW_cut (y := Cod.rread11_7) hN (fun _ : Unit => ⟨[(1, .int .i64 p), (4, .vptr 150004 0), (6, .str b), (8, .int .i64 size), (9, .int .i64 M.2.2.1), (11, .vptr 150011 0)],
     [(150004, .var zeroC), (150011, .var [.int .i64 p, .int .i64 0, .int .i64 k, .str [], .int .i64 M.1, .str M.2.1, .int .u32 0])]⟩) (fun _ => M.2.2.2 = 0) (fun R2 hR2 => ?_) (fun _ hM0 => ?_)
    ·have hdz : ∀ e : Nat, e ≠ 0 → M.2.2.2 = e → (endE b p k size M) = (en0, e) := by
      intro e he0 he
      unfold endE
      rw [if_pos (by rw [he]; exact he0), he]
     have ksm : k < 8 := hle.2.2.1
     simp (disch := omega) only [go_sem, simprocAttr]
     refine vcW_cut (y := .cond (.t 50) .skip Cod.rread11_28) hN (fun _ : Unit => ⟨[(1, .int .i64 p), (4, .vptr 150004 0), (6, .str b), (8, .int .i64 size), (9, .int .i64 q), (11, .vptr 150011 0), (48, .int .i64 k), (50, .bool (decide (1 ≤ k ∧ k ≤ 4)))],
      [(150004, .var zeroC), (150011, .var [.int .i64 p, .int .i64 0, .int .i64 k, .str [], .int .i64 0, .str [], .int .u32 0])]⟩) (fun _ => True) (fun R3 hR3 => ?_) (fun _ _ => ?_)
     ·by_cases k1 : k = 1
      ·subst k1
       simp (disch := omega) only [go_sem, simprocAttr]
       exact hR3 () _ trivial (.le (by simp (disch := omega) only [go_sem, simprocAttr, zeroC]))
      ·by_cases k2 : k = 2
       ·subst k2
        simp (disch := omega) only [go_sem, simprocAttr]
        exact hR3 () _ trivial (.le (by simp (disch := omega) only [go_sem, simprocAttr, zeroC]))
       ·by_cases k3 : k = 3
        ·subst k3
         simp (disch := omega) only [go_sem, simprocAttr]
         exact hR3 () _ trivial (.le (by simp (disch := omega) only [go_sem, simprocAttr, zeroC]))
        ·by_cases k4 : k = 4
         ·subst k4
          simp (disch := omega) only [go_sem, simprocAttr]
          exact hR3 () _ trivial (.le (by simp (disch := omega) only [go_sem, simprocAttr, zeroC]))
         ·have i1 : ¬ (k : Int) = 1 := by omega
          have i2 : ¬ (k : Int) = 2 := by omega
          have i3 : ¬ (k : Int) = 3 := by omega
          have i4 : ¬ (k : Int) = 4 := by omega
          rw [decide_eq_false (by omega)] at hR3
          simp (disch := omega) only [go_sem, simprocAttr, i1, i2, i3, i4]
          exact hR3 () _ trivial (.le (by simp (disch := omega) only [go_sem, simprocAttr, zeroC]))
     ·unfold midE at hM
      by_cases kk : 1 ≤ k ∧ k ≤ 4
      ·rw [if_pos kk] at hM
       subst hM
       rw [decide_eq_true kk]
       simp (disch := omega) only [go_sem, simprocAttr]
       exact hR2 () _ rfl (.le (by simp (disch := omega) only [go_sem, simprocAttr]))
      ·rw [if_neg kk] at hM
       rw [decide_eq_false kk]
       by_cases k6 : k = 6
       ·rw [if_pos k6] at hM
        subst k6
        have hbk := rback11_ok b q (by omega) (by omega)
        have hbl : (backP b q).2.2 = 0 → (backP b q).2.1 ≤ b.length ∧ q < (backP b q).2.1 := backL_le b _ _ _
        have hbs := back_size b q
        generalize backP b q = B at *
        simp (disch := omega) only [go_sem, simprocAttr]
        refine call_ro hbk rfl rfl ?_
        by_cases hbe : B.2.2 = 0
        ·rw [if_neg (by simpa using hbe)] at hM
         have hbl := hbl hbe
         have hbs := hbs hbe
         by_cases hb1 : B.1 < 1 ∨ p - 12 < B.1
         ·rw [if_pos hb1] at hM
          rw [hdz 3 (by decide) (by rw [← hM])] at hR
          by_cases hb2 : B.1 < 1
          ·have i1 : (B.1 : Int) < 1 := by omega
           simp (disch := omega) only [go_sem, simprocAttr, hbe, i1, zeroC]
           (repeat (first | refine gskip_of ?_ | refine gcskip_of ?_ | refine gopen_of ?_) <;> simp (disch := omega) only [go_sem, simprocAttr, hbe, i1, zeroC])
           exact hR.ro ⟨rfl, rfl⟩
          ·have i1 : ¬ (B.1 : Int) < 1 := by omega
           have i2 : (p : Int) - 12 < (B.1 : Int) := by omega
           simp (disch := omega) only [go_sem, simprocAttr, hbe, i1, i2, zeroC]
           (repeat (first | refine gskip_of ?_ | refine gcskip_of ?_ | refine gopen_of ?_) <;> simp (disch := omega) only [go_sem, simprocAttr, hbe, i1, i2, zeroC])
           exact hR.ro ⟨rfl, rfl⟩
         ·rw [if_neg hb1] at hM
          subst hM
          have i1 : ¬ (B.1 : Int) < 1 := by omega
          have i2 : ¬ (p : Int) - 12 < (B.1 : Int) := by omega
          have i3 : (p : Int) - (B.1 : Int) = ((p - B.1 : Nat) : Int) := by omega
          simp (disch := omega) only [go_sem, simprocAttr, hbe, i1, i2]
          (repeat (first | refine gskip_of ?_ | refine gcskip_of ?_ | refine gopen_of ?_) <;> simp (disch := omega) only [go_sem, simprocAttr, hbe, i1, i2])
          exact hR2 () _ rfl (.le (by rw [← i3]; simp (disch := omega) only [go_sem, simprocAttr, zeroC]))
        ·rw [if_pos hbe] at hM
         rw [hdz _ hbe (by rw [← hM])] at hR
         have i1 : ¬ (B.2.2 : Int) = 0 := by omega
         simp (disch := omega) only [go_sem, simprocAttr, i1, zeroC]
         exact hR.ro ⟨rfl, rfl⟩
       ·rw [if_neg k6] at hM
        have i6 : ¬ (k : Int) = 6 := by omega
        by_cases k7 : k = 7
        ·rw [if_pos k7] at hM
         subst k7
         by_cases h20 : b.length - q < 20
         ·rw [if_pos h20] at hM
          rw [hdz 6 (by decide) (by rw [← hM])] at hR
          have i1 : (b.length : Int) - (q : Int) < 20 := by omega
          simp (disch := omega) only [go_sem, simprocAttr, i1, zeroC]
          exact hR.ro ⟨rfl, rfl⟩
         ·rw [if_neg h20] at hM
          subst hM
          have i1 : ¬ (b.length : Int) - (q : Int) < 20 := by omega
          have ei : ((q : Int) + 20).toNat - q = 20 := by omega
          have e20 : q + 20 - q = 20 := by omega
          have hhx := rhex_ok ((b.drop q).take 20) (by rw [List.length_take]; omega)
          simp (disch := omega) only [go_sem, simprocAttr, i1, ei, e20]
          refine call_ro hhx rfl rfl ?_
          simp (disch := omega) only [go_sem, simprocAttr]
          exact hR2 () _ rfl (.le (by simp (disch := omega) only [go_sem, simprocAttr, zeroC]))
        ·rw [if_neg k7] at hM
         rw [hdz 10 (by decide) (by rw [← hM])] at hR
         have i7 : ¬ (k : Int) = 7 := by omega
         simp (disch := omega) only [go_sem, simprocAttr, i6, i7, zeroC]
         exact hR.ro ⟨rfl, rfl⟩
    ·unfold endE at hR
     rw [if_neg (by simpa using hM0)] at hR
     have hml := hml hM0
     by_cases hsz : 65000 < size
     ·rw [if_pos hsz] at hR
      simp (disch := omega) only [go_sem, simprocAttr, zeroC]
      exact hR.ro ⟨rfl, rfl⟩
     ·rw [if_neg hsz] at hR
      have hz := r6read_ok b M.2.2.1 size (by omega) (by omega) (by omega)
      have hzl := zlib_len (b.drop M.2.2.1) size
      rw [List.length_drop] at hzl
      generalize zlibS (b.drop M.2.2.1) size = Z at *
      simp (disch := omega) only [go_sem, simprocAttr]
      refine call_ro hz rfl rfl ?_
      by_cases z2 : Z.2.2 = 2
      ·rw [if_pos (.inl z2)] at hR
       have i1 : (Z.2.2 : Int) = 2 := by omega
       simp (disch := omega) only [go_sem, simprocAttr, i1, zeroC]
       (repeat (first | refine gskip_of ?_ | refine gcskip_of ?_ | refine gopen_of ?_) <;> simp (disch := omega) only [go_sem, simprocAttr, i1, zeroC])
       exact hR.ro ⟨rfl, rfl⟩
      ·have i1 : ¬ (Z.2.2 : Int) = 2 := by omega
       by_cases z0 : Z.2.2 = 0
       ·have i2 : (Z.2.2 : Int) = 0 := by omega
        by_cases zl : Z.1.length < size
        ·rw [if_pos (.inr ⟨z0, zl⟩)] at hR
         simp (disch := omega) only [go_sem, simprocAttr, i1, i2, zeroC]
         (repeat (first | refine gskip_of ?_ | refine gcskip_of ?_ | refine gopen_of ?_) <;> simp (disch := omega) only [go_sem, simprocAttr, i1, i2, zeroC])
         exact hR.ro ⟨rfl, rfl⟩
        ·rw [if_neg (by omega), if_neg (by simpa using z0)] at hR
         have hcr := rcrc_ok ((b.drop p).take (M.2.2.1 + Z.2.1 - p)) (by rw [List.length_take, List.length_drop]; omega)
         have et2 : ((M.2.2.1 : Int) + (Z.2.1 : Int)).toNat - p = M.2.2.1 + Z.2.1 - p := by omega
         simp (disch := omega) only [go_sem, simprocAttr, i1, i2, et2, zeroC]
         (repeat (first | refine gskip_of ?_ | refine gcskip_of ?_ | refine gopen_of ?_) <;> simp (disch := omega) only [go_sem, simprocAttr, i1, i2, et2, zeroC])
         refine call_ro hcr rfl rfl ?_
         simp (disch := omega) only [go_sem, simprocAttr]
         exact hR.ro ⟨rfl, rfl⟩
       ·have i2 : ¬ (Z.2.2 : Int) = 0 := by omega
        rw [if_neg (by omega), if_pos z0] at hR
        simp (disch := omega) only [go_sem, simprocAttr, i1, i2, zeroC]
        (repeat (first | refine gskip_of ?_ | refine gcskip_of ?_ | refine gopen_of ?_) <;> simp (disch := omega) only [go_sem, simprocAttr, i1, i2, zeroC])
        exact hR.ro ⟨rfl, rfl⟩
   ·rw [if_pos hhe] at hR
    have i1 : ¬ (H.2.2.2 : Int) = 0 := by omega
    simp (disch := omega) only [go_sem, simprocAttr, i1, zeroC]
    exact hR.ro ⟨rfl, rfl⟩
end Go.Proofs.YtjoefngnjoofeaaGreatDoor.Pk
namespace Go.Proofs.YtjoefngnjoofeaaGreatDoor.Pk
open Eng Sh
set_option maxRecDepth 10000
def packHd : Bs := [80, 65, 67, 75, 0, 0, 0, 2]
def countP (s : Bs) : Nat × Nat :=
 if s.length < 32 then (0, 6) else if s.take 8 ≠ packHd then (0, 3) else if 1000 < bigN ((s.drop 8).take 4) then (0, 2) else
 if sha1 (s.take (s.length - 20)) ≠ s.drop (s.length - 20) then (0, 5) else (bigN ((s.drop 8).take 4), 0)
theorem four_lt (s : Bs) (o : Nat) (h : o + 4 ≤ s.length) : bigN ((s.drop o).take 4) < 4294967296 := by
 have hl : ((s.drop o).take 4).length = 4 := by rw [List.length_take, List.length_drop]; omega
 have := bigN_lt ((s.drop o).take 4) 4 (by omega)
 rw [List.take_of_length_le (by omega)] at this
 exact this
theorem head_two (s : Bs) (h : 32 ≤ s.length) : s.take 8 = packHd ↔ (s.take 4 = [80, 65, 67, 75] ∧ bigN ((s.drop 4).take 4) = 2) := by
 have hl : ((s.drop 4).take 4).length = 4 := by rw [List.length_take, List.length_drop]; omega
 rw [big_four _ hl 2 (by decide), show (8 : Nat) = 4 + 4 from rfl, List.take_add, show packHd = [80, 65, 67, 75] ++ (litB 2 4).reverse from by decide]
 constructor
 ·intro h
  have h1 := List.append_inj h (by rw [List.length_take]; simp; omega)
  exact h1
 ·rintro ⟨h1, h2⟩
  rw [h1, h2]
set_option maxHeartbeats 1000000 in
theorem pcount_ok (s : Bs) (hs : s.length ≤ 100000) : SpecR Tryz.prog 6 [.str s] (.tup [.int .i64 ((countP s).1 : Nat), .int .i64 ((countP s).2 : Nat)]) := by
 refine Cod.pcount_spec (fun E R hN hR => ?_)
 unfold countP at hR
 by_cases h32 : s.length < 32
 ·rw [if_pos h32] at hR
  simp (disch := first | omega | (simp only [Lx]; omega)) only [go_sem, simprocAttr]
  exact hR.ro ⟨rfl, rfl⟩
 ·rw [if_neg h32] at hR
  have hh := head_two s (by omega)
  have hb4 := frombig_ok ((s.drop 4).take 4) (by rw [List.length_take]; omega)
  have hb8 := frombig_ok ((s.drop 8).take 4) (by rw [List.length_take]; omega)
  have hl4 := four_lt s 4 (by omega)
  have hl8 := four_lt s 8 (by omega)
  have hsum := sum1_ok (s.take (s.length - 20)) (by rw [List.length_take]; omega)
  have et : ((s.length : Int) - 20).toNat = s.length - 20 := by omega
  generalize bigN ((s.drop 4).take 4) = x4 at *
  generalize bigN ((s.drop 8).take 4) = x8 at *
  by_cases h3 : s.take 8 = packHd
  ·rw [if_neg (by simpa using h3)] at hR
   obtain ⟨h1, h2⟩ := hh.1 h3
   rw [h2] at hb4
   simp (disch := first | omega | (simp only [Lx]; omega)) only [go_sem, simprocAttr, h1]
   (repeat (first | refine gskip_of ?_ | refine gcskip_of ?_ | refine gopen_of ?_) <;> simp (disch := first | omega | (simp only [Lx]; omega)) only [go_sem, simprocAttr, h1])
   refine gcyes_of (callT_ro (by simp (disch := first | omega | (simp only [Lx]; omega)) only [go_sem, simprocAttr]) hb4 (by simp (disch := first | omega | (simp only [Lx]; omega)) only [go_sem, simprocAttr]) rfl rfl ?_)
   simp (disch := first | omega | (simp only [Lx]; omega)) only [go_sem, simprocAttr]
   (repeat (first | refine gskip_of ?_ | refine gcskip_of ?_ | refine gopen_of ?_) <;> simp (disch := first | omega | (simp only [Lx]; omega)) only [go_sem, simprocAttr])
   refine call_ro hb8 rfl rfl ?_
   by_cases h1000 : 1000 < x8
   ·rw [if_pos h1000] at hR
    simp (disch := first | omega | (simp only [Lx]; omega)) only [go_sem, simprocAttr]
    exact hR.ro ⟨rfl, rfl⟩
   ·rw [if_neg h1000] at hR
    simp (disch := first | omega | (simp only [Lx]; omega)) only [go_sem, simprocAttr, et]
    refine call_ro hsum rfl rfl ?_
    by_cases hsha : sha1 (s.take (s.length - 20)) = s.drop (s.length - 20)
    ·rw [if_neg (by simpa using hsha)] at hR
     simp (disch := first | omega | (simp only [Lx]; omega)) only [go_sem, simprocAttr, et, hsha]
     exact hR.ro ⟨rfl, rfl⟩
    ·rw [if_pos hsha] at hR
     simp (disch := first | omega | (simp only [Lx]; omega)) only [go_sem, simprocAttr, et, hsha]
     exact hR.ro ⟨rfl, rfl⟩
  ·rw [if_pos h3] at hR
   by_cases h1 : s.take 4 = [80, 65, 67, 75]
   ·have h2 : ¬ x4 = 2 := fun h2 => h3 (hh.2 ⟨h1, h2⟩)
    have i2 : ¬ ((x4 : Nat) : Int) = 2 := by omega
    simp (disch := first | omega | (simp only [Lx]; omega)) only [go_sem, simprocAttr, h1]
    (repeat (first | refine gskip_of ?_ | refine gcskip_of ?_ | refine gopen_of ?_) <;> simp (disch := first | omega | (simp only [Lx]; omega)) only [go_sem, simprocAttr, h1])
    refine gcyes_of (callT_ro (by simp (disch := first | omega | (simp only [Lx]; omega)) only [go_sem, simprocAttr]) hb4 (by simp (disch := first | omega | (simp only [Lx]; omega)) only [go_sem, simprocAttr]) rfl rfl ?_)
    simp (disch := first | omega | (simp only [Lx]; omega)) only [go_sem, simprocAttr, i2]
    (repeat (first | refine gskip_of ?_ | refine gcskip_of ?_ | refine gopen_of ?_) <;> simp (disch := first | omega | (simp only [Lx]; omega)) only [go_sem, simprocAttr, i2])
    exact hR.ro ⟨rfl, rfl⟩
   ·simp (disch := first | omega | (simp only [Lx]; omega)) only [go_sem, simprocAttr, h1]
    (repeat (first | refine gskip_of ?_ | refine gcskip_of ?_ | refine gopen_of ?_) <;> simp (disch := first | omega | (simp only [Lx]; omega)) only [go_sem, simprocAttr, h1])
    exact hR.ro ⟨rfl, rfl⟩
set_option maxHeartbeats 1000000 in
theorem rcount_ok (s : Bs) (hs : s.length ≤ 100000) : SpecR Tryz.prog 7 [.str s] (.tup [.int .i64 ((countP s).1 : Nat), .int .i64 ((countP s).2 : Nat)]) := by
 refine Cod.rcount_spec (fun E R hN hR => ?_)
 unfold countP at hR
 by_cases h32 : s.length < 32
 ·rw [if_pos h32] at hR
  simp (disch := first | omega | (simp only [Lx]; omega)) only [go_sem, simprocAttr]
  exact hR.ro ⟨rfl, rfl⟩
 ·rw [if_neg h32] at hR
  have hb8 := rnumber_ok ((s.drop 8).take 4) (by rw [List.length_take]; omega)
  have hl8 := four_lt s 8 (by omega)
  have hsum := rsum1_ok (s.take (s.length - 20)) (by rw [List.length_take]; omega)
  have et : ((s.length : Int) - 20).toNat = s.length - 20 := by omega
  generalize bigN ((s.drop 8).take 4) = x8 at *
  unfold packHd at hR
  by_cases h3 : s.take 8 = [80, 65, 67, 75, 0, 0, 0, 2]
  ·rw [if_neg (by simpa using h3)] at hR
   simp (disch := first | omega | (simp only [Lx]; omega)) only [go_sem, simprocAttr, h3]
   refine call_ro hb8 rfl rfl ?_
   by_cases h1000 : 1000 < x8
   ·rw [if_pos h1000] at hR
    simp (disch := first | omega | (simp only [Lx]; omega)) only [go_sem, simprocAttr]
    exact hR.ro ⟨rfl, rfl⟩
   ·rw [if_neg h1000] at hR
    simp (disch := first | omega | (simp only [Lx]; omega)) only [go_sem, simprocAttr, et]
    refine call_ro hsum rfl rfl ?_
    by_cases hsha : sha1 (s.take (s.length - 20)) = s.drop (s.length - 20)
    ·rw [if_neg (by simpa using hsha)] at hR
     simp (disch := first | omega | (simp only [Lx]; omega)) only [go_sem, simprocAttr, et, hsha]
     exact hR.ro ⟨rfl, rfl⟩
    ·rw [if_pos hsha] at hR
     simp (disch := first | omega | (simp only [Lx]; omega)) only [go_sem, simprocAttr, et, hsha]
     exact hR.ro ⟨rfl, rfl⟩
  ·rw [if_pos h3] at hR
   simp (disch := first | omega | (simp only [Lx]; omega)) only [go_sem, simprocAttr, h3]
   exact hR.ro ⟨rfl, rfl⟩
def allL (s : Bs) : Nat → Nat → List En → List En × Nat × Nat
 | 0, p, out => (out, p, 0)
 | n + 1, p, out => if (readP s p).2 ≠ 0 then ([], 0, (readP s p).2) else allL s n (readP s p).1.next (out ++ [(readP s p).1])
def allP (s : Bs) : List En × Nat :=
 if (countP s).2 ≠ 0 then ([], (countP s).2) else if (allL s (countP s).1 12 []).2.2 ≠ 0 then ([], (allL s (countP s).1 12 []).2.2) else
 if (allL s (countP s).1 12 []).2.1 ≠ s.length - 20 then ([], 3) else ((allL s (countP s).1 12 []).1, 0)
def ensA (l : List En) : List AV := l.map fun e => .agg (enL e)
theorem ens_len (l : List En) : (ensA l).length = l.length := by simp [ensA]
theorem ens_app (l : List En) (e : En) : ensA l ++ [.agg (enL e)] = ensA (l ++ [e]) := by simp [ensA]
theorem ens_cells (l : List En) : (ensA l).all cellsOK = true := by simp [ensA, enL, cellsOK, cellsOf, isCell]
theorem ens_nil : ensA [] = [] := (rfl)
theorem ens_take {l : List En} : sub3 (ensA l) 0 l.length = ensA l := by simp [sub3, ensA, List.take_of_length_le]
def entSl (l : List En) (X : AV) : Prop := X = .ro 7 (ensA l) ∨ (l = [] ∧ X = .nilsl)
theorem readP_next (s : Bs) (a : Int) (h : (readP s a).2 = 0) : (readP s a).1.next ≤ s.length := by
 unfold readP at h ⊢
 split at h
 ·cases h
 ·rename_i h1
  rw [if_neg h1]
  unfold readE at h ⊢
  split at h
  ·rename_i h2; exact (h2 h).elim
  ·rename_i h2
   rw [if_neg h2]
   have hl := headP_le (s.take (s.length - 20)) a.toNat (by simpa using h2)
   unfold endE at h ⊢
   split at h
   ·rename_i h3; exact (h3 h).elim
   ·rename_i h3
    rw [if_neg h3]
    have hm := mid_le (s.take (s.length - 20)) a.toNat (headP (s.take (s.length - 20)) a.toNat).1 (headP (s.take (s.length - 20)) a.toNat).2.2.1 hl.1 (by simpa using h3)
    split at h
    ·cases h
    ·rename_i h4
     rw [if_neg h4]
     split at h
     ·cases h
     ·rename_i h5
      rw [if_neg h5]
      split at h
      ·rename_i h6; exact (h6 h).elim
      ·rename_i h6
       rw [if_neg h6]
       have hz := (zlib_len ((s.take (s.length - 20)).drop (midE (s.take (s.length - 20)) a.toNat (headP (s.take (s.length - 20)) a.toNat).1 (headP (s.take (s.length - 20)) a.toNat).2.2.1).2.2.1) (headP (s.take (s.length - 20)) a.toNat).2.1).2
       rw [List.length_drop] at hz
       simp only
       have : (s.take (s.length - 20)).length ≤ s.length := by rw [List.length_take]; omega
       omega
end Go.Proofs.YtjoefngnjoofeaaGreatDoor.Pk
namespace Go.Proofs.YtjoefngnjoofeaaGreatDoor.Pk
open Eng Sh
set_option maxRecDepth 10000
theorem ens_snoc (l : List En) (e : En) : ensA (l ++ [e]) = ensA l ++ [.agg (enL e)] := (ens_app l e).symm
theorem count_le (s : Bs) : (countP s).1 ≤ 1000 ∧ ((countP s).2 = 0 → 32 ≤ s.length) := by
 unfold countP
 split
 ·exact ⟨by decide, fun h => by cases h⟩
 ·rename_i h0
  split
  ·exact ⟨by decide, fun _ => by omega⟩
  ·split
   ·exact ⟨by decide, fun _ => by omega⟩
   ·rename_i h
    split
    ·exact ⟨by decide, fun _ => by omega⟩
    ·exact ⟨by simp only; omega, fun _ => by omega⟩
set_option maxHeartbeats 1000000 in
theorem pall_ok (s : Bs) (hs : s.length ≤ 100000) : Eng.Spec Tryz.prog 10 [] [.str s] (fun h r _ => h = [] ∧ ∃ X, r = .tup [X, .int .i64 ((allP s).2 : Nat)] ∧ entSl (allP s).1 X) := by
 refine Cod.pall_spec (fun E R hN hR => ?_)
 have hc := pcount_ok s hs
 obtain ⟨hcn, hc32⟩ := count_le s
 unfold allP at hR
 generalize countP s = C at *
 simp (disch := omega) only [go_sem, simprocAttr]
 refine call_ro hc rfl rfl ?_
 by_cases hC : C.2 = 0
 ·rw [if_neg (by simpa using hC)] at hR
  have hc32 := hc32 hC
  generalize hA : allL s C.1 12 [] = A at *
  simp (disch := omega) only [go_sem, simprocAttr, hC]
  refine vcW_loop hN (fun q : Nat × Nat × List En => ⟨[(0, .str s), (6, .int .i64 q.2.1), (7, .sl 145033 0 q.2.2.length), (18, .int .i64 C.1), (19, .int .i64 q.1)], [(145033, .arr 7 (ensA q.2.2))]⟩)
   (fun q => q.1 ≤ C.1 ∧ q.2.1 ≤ 1000000 ∧ q.2.2.length = q.1 ∧ allL s (C.1 - q.1) q.2.1 q.2.2 = A) (fun q => C.1 - q.1) (0, 12, []) (.nil 7 145033 7 rfl (.le (by simp (disch := omega) only [go_sem, simprocAttr, ens_nil]))) ⟨by simp, by simp, rfl, hA⟩ ?_
  rintro ⟨i, p, out⟩ R1 ⟨hi, hp, hol, hI⟩ hR1
  simp only at hi hp hol hI
  have hel := ens_len out
  by_cases hlt : i < C.1
  ·obtain ⟨m, hm⟩ : ∃ m, C.1 - i = m + 1 := ⟨C.1 - i - 1, by omega⟩
   rw [hm] at hI
   have hrd := pread_ok s (p : Int) (by omega) (by omega)
   have hnx := readP_next s (p : Int)
   have hst : allL s (m + 1) p out = if (readP s p).2 ≠ 0 then ([], 0, (readP s p).2) else allL s m (readP s p).1.next (out ++ [(readP s p).1]) := rfl
   rw [hst] at hI
   generalize readP s (p : Int) = X at *
   simp (disch := omega) only [go_sem, simprocAttr]
   refine call_ro hrd rfl rfl ?_
   by_cases hX : X.2 = 0
   ·rw [if_neg (by simpa using hX)] at hI
    have hnx := hnx hX
    have hes := ens_take (l := out)
    simp (disch := omega) only [go_sem, simprocAttr, enL, hX, hel, hes, ens_cells]
    refine hR1 (i + 1, X.1.next, out ++ [X.1]) _ (by simp only; omega) ⟨hlt, by simp only; omega, by simp [hol], by simp only; rw [show C.1 - (i + 1) = m by omega]; exact hI⟩ (.le ?_)
    rw [ens_snoc]
    simp (disch := omega) only [go_sem, simprocAttr, List.length_append, List.length_singleton, hol, enL]
   ·rw [if_pos hX] at hI
    subst hI
    rw [if_pos (by exact hX)] at hR
    have i1 : ¬ (X.2 : Int) = 0 := by omega
    simp (disch := omega) only [go_sem, simprocAttr, enL, i1]
    exact hR.ro ⟨rfl, _, rfl, .inr ⟨rfl, rfl⟩⟩
  ·obtain rfl : i = C.1 := by omega
   rw [Nat.sub_self] at hI
   subst hI
   rw [if_neg (by simp [allL])] at hR
   simp only [allL] at hR
   by_cases hend : p = s.length - 20
   ·have hP : (if p ≠ s.length - 20 then (([] : List En), 3) else (out, 0)) = (out, 0) := if_neg (by simpa using hend)
    simp only [ne_eq, hend, not_true_eq_false, if_false] at hR
    have i1 : (p : Int) = (s.length : Int) - 20 := by omega
    have hes := ens_take (l := out)
    simp (disch := omega) only [go_sem, simprocAttr, i1]
    exact hR.wk (h' := []) (r' := .tup [.ro 7 (ensA out), .int .i64 (0 : Nat)]) (ar' := [.undef]) rfl (.frz 145033 (.le (by simp (disch := omega) only [go_sem, simprocAttr, hes]))) ⟨rfl, _, rfl, .inl rfl⟩
   ·have hP : (if p ≠ s.length - 20 then (([] : List En), 3) else (out, 0)) = ([], 3) := if_pos hend
    simp only [ne_eq, hend, not_false_eq_true, if_true] at hR
    have i1 : ¬ (p : Int) = (s.length : Int) - 20 := by omega
    simp (disch := omega) only [go_sem, simprocAttr, i1]
    exact hR.ro ⟨rfl, _, rfl, .inr ⟨rfl, rfl⟩⟩
 ·rw [if_pos hC] at hR
  have i1 : ¬ (C.2 : Int) = 0 := by omega
  simp (disch := omega) only [go_sem, simprocAttr, i1]
  exact hR.ro ⟨rfl, _, rfl, .inr ⟨rfl, rfl⟩⟩
set_option maxHeartbeats 1000000 in
theorem rall11_ok (s : Bs) (hs : s.length ≤ 100000) : Eng.Spec Tryz.prog 11 [] [.str s] (fun h r _ => h = [] ∧ ∃ X, r = .tup [X, .int .i64 ((allP s).2 : Nat)] ∧ entSl (allP s).1 X) := by
 refine Cod.rall11_spec (fun E R hN hR => ?_)
 have hc := rcount_ok s hs
 obtain ⟨hcn, hc32⟩ := count_le s
 unfold allP at hR
 generalize countP s = C at *
 simp (disch := omega) only [go_sem, simprocAttr]
 refine call_ro hc rfl rfl ?_
 by_cases hC : C.2 = 0
 ·rw [if_neg (by simpa using hC)] at hR
  have hc32 := hc32 hC
  generalize hA : allL s C.1 12 [] = A at *
  simp (disch := omega) only [go_sem, simprocAttr, hC]
  refine vcW_loop hN (fun q : Nat × Nat × List En => ⟨[(0, .str s), (4, .int .i64 C.1), (6, .sl 151019 0 q.2.2.length), (7, .int .i64 q.2.1), (8, .int .i64 q.1)], [(151019, .arr 7 (ensA q.2.2))]⟩)
   (fun q => q.1 ≤ C.1 ∧ q.2.1 ≤ 1000000 ∧ q.2.2.length = q.1 ∧ allL s (C.1 - q.1) q.2.1 q.2.2 = A) (fun q => C.1 - q.1) (0, 12, []) (.le (by simp (disch := omega) only [go_sem, simprocAttr, ens_nil])) ⟨by simp, by simp, rfl, hA⟩ ?_
  rintro ⟨i, p, out⟩ R1 ⟨hi, hp, hol, hI⟩ hR1
  simp only at hi hp hol hI
  have hel := ens_len out
  by_cases hlt : i < C.1
  ·obtain ⟨m, hm⟩ : ∃ m, C.1 - i = m + 1 := ⟨C.1 - i - 1, by omega⟩
   rw [hm] at hI
   have hrd := rread11_ok s (p : Int) (by omega) (by omega)
   have hnx := readP_next s (p : Int)
   have hst : allL s (m + 1) p out = if (readP s p).2 ≠ 0 then ([], 0, (readP s p).2) else allL s m (readP s p).1.next (out ++ [(readP s p).1]) := rfl
   rw [hst] at hI
   generalize readP s (p : Int) = X at *
   simp (disch := omega) only [go_sem, simprocAttr]
   refine call_ro hrd rfl rfl ?_
   by_cases hX : X.2 = 0
   ·rw [if_neg (by simpa using hX)] at hI
    have hnx := hnx hX
    have hes := ens_take (l := out)
    simp (disch := omega) only [go_sem, simprocAttr, enL, hX, hel, hes, ens_cells]
    refine hR1 (i + 1, X.1.next, out ++ [X.1]) _ (by simp only; omega) ⟨hlt, by simp only; omega, by simp [hol], by simp only; rw [show C.1 - (i + 1) = m by omega]; exact hI⟩ (.le ?_)
    rw [ens_snoc]
    simp (disch := omega) only [go_sem, simprocAttr, List.length_append, List.length_singleton, hol, enL]
   ·rw [if_pos hX] at hI
    subst hI
    rw [if_pos (by exact hX)] at hR
    have i1 : ¬ (X.2 : Int) = 0 := by omega
    simp (disch := omega) only [go_sem, simprocAttr, enL, i1]
    exact hR.ro ⟨rfl, _, rfl, .inr ⟨rfl, rfl⟩⟩
  ·obtain rfl : i = C.1 := by omega
   rw [Nat.sub_self] at hI
   subst hI
   rw [if_neg (by simp [allL])] at hR
   simp only [allL] at hR
   by_cases hend : p = s.length - 20
   ·have hP : (if p ≠ s.length - 20 then (([] : List En), 3) else (out, 0)) = (out, 0) := if_neg (by simpa using hend)
    simp only [ne_eq, hend, not_true_eq_false, if_false] at hR
    have i1 : (p : Int) = (s.length : Int) - 20 := by omega
    have hes := ens_take (l := out)
    simp (disch := omega) only [go_sem, simprocAttr, i1]
    exact hR.wk (h' := []) (r' := .tup [.ro 7 (ensA out), .int .i64 (0 : Nat)]) (ar' := [.undef]) rfl (.frz 151019 (.le (by simp (disch := omega) only [go_sem, simprocAttr, hes]))) ⟨rfl, _, rfl, .inl rfl⟩
   ·have hP : (if p ≠ s.length - 20 then (([] : List En), 3) else (out, 0)) = ([], 3) := if_pos hend
    simp only [ne_eq, hend, not_false_eq_true, if_true] at hR
    have i1 : ¬ (p : Int) = (s.length : Int) - 20 := by omega
    simp (disch := omega) only [go_sem, simprocAttr, i1]
    exact hR.ro ⟨rfl, _, rfl, .inr ⟨rfl, rfl⟩⟩
 ·rw [if_pos hC] at hR
  have i1 : ¬ (C.2 : Int) = 0 := by omega
  simp (disch := omega) only [go_sem, simprocAttr, i1]
  exact hR.ro ⟨rfl, _, rfl, .inr ⟨rfl, rfl⟩⟩
theorem few_ok (t : Bs) (n : Nat) (ht : t.length ≤ 4000000000000000000) (hn : n ≤ 100000) : SpecR Tryz.prog 5 [.str t, .int .i64 n] (.str (t.take n)) := by
 refine Cod.few_spec (fun E R hN hR => ?_)
 by_cases h : n < t.length
 ·have hi : (n : Int) < (t.length : Int) := by omega
  simp (disch := omega) only [go_sem, simprocAttr, hi]
  exact hR.ro ⟨rfl, rfl⟩
 ·rw [List.take_of_length_le (by omega)] at hR
  have hi : ¬ (n : Int) < (t.length : Int) := by omega
  simp (disch := omega) only [go_sem, simprocAttr, hi]
  exact hR.ro ⟨rfl, rfl⟩
theorem nth_ens {l : List En} {i : Nat} (h : i < l.length) : nth (ensA l) i = .agg (enL (l.getD i en0)) := by
 simp [nth, ensA, List.getD_eq_getElem?_getD, h]
theorem same_ok (l : List En) (hl : l.length ≤ 100000) (X Y : AV) (hX : entSl l X) (hY : entSl l Y) : SpecR Tryz.prog 13 [X, Y] (.bool true) := by
 refine Cod.same11_spec (fun E R hN hR => ?_)
 have hel := ens_len l
 have both : X = .ro 7 (ensA l) → Y = .ro 7 (ensA l) → vcW Tryz.prog E Cod.same11 (KQ.post [RVar.tmp 4] 2 R) ⟨[(0, X), (1, Y)], []⟩ := by
  rintro rfl rfl
  simp (disch := omega) only [go_sem, simprocAttr, hel]
  refine vcW_loop hN (fun i : Nat => ⟨[(0, .ro 7 (ensA l)), (1, .ro 7 (ensA l)), (12, .int .i64 l.length), (13, .int .i64 i)], []⟩) (fun i => i ≤ l.length) (fun i => l.length - i) 0 (.le (by simp (disch := omega) only [go_sem, simprocAttr])) (by omega) ?_
  rintro i R1 hi hR1
  by_cases hlt : i < l.length
  ·have hn := nth_ens hlt
   generalize l.getD i en0 = e at *
   simp (disch := omega) only [go_sem, simprocAttr, hel, hn, enL]
   exact hR1 (i + 1) _ (by omega) (by omega) (.le (by simp (disch := omega) only [go_sem, simprocAttr]))
  ·obtain rfl : i = l.length := by omega
   simp (disch := omega) only [go_sem, simprocAttr]
   exact hR.ro ⟨rfl, rfl⟩
 rcases hX with hX | ⟨rfl, rfl⟩
 ·rcases hY with hY | ⟨rfl, rfl⟩
  ·exact both hX hY
  ·subst hX
   simp (disch := omega) only [go_sem, simprocAttr, ens_nil]
   refine vcW_loop hN (fun i : Nat => ⟨[(0, .ro 7 []), (1, .nilsl), (12, .int .i64 0), (13, .int .i64 i)], []⟩) (fun i => i = 0) (fun i => 0) 0 (.le (by simp (disch := omega) only [go_sem, simprocAttr])) rfl ?_
   rintro i R1 rfl hR1
   simp (disch := omega) only [go_sem, simprocAttr]
   exact hR.ro ⟨rfl, rfl⟩
 ·rcases hY with hY | ⟨_, rfl⟩
  ·subst hY
   simp (disch := omega) only [go_sem, simprocAttr, ens_nil]
   refine vcW_loop hN (fun i : Nat => ⟨[(0, .nilsl), (1, .ro 7 []), (12, .int .i64 0), (13, .int .i64 i)], []⟩) (fun i => i = 0) (fun i => 0) 0 (.le (by simp (disch := omega) only [go_sem, simprocAttr])) rfl ?_
   rintro i R1 rfl hR1
   simp (disch := omega) only [go_sem, simprocAttr]
   exact hR.ro ⟨rfl, rfl⟩
  ·simp (disch := omega) only [go_sem, simprocAttr]
   refine vcW_loop hN (fun i : Nat => ⟨[(0, .nilsl), (1, .nilsl), (12, .int .i64 0), (13, .int .i64 i)], []⟩) (fun i => i = 0) (fun i => 0) 0 (.le (by simp (disch := omega) only [go_sem, simprocAttr])) rfl ?_
   rintro i R1 rfl hR1
   simp (disch := omega) only [go_sem, simprocAttr]
   exact hR.ro ⟨rfl, rfl⟩
end Go.Proofs.YtjoefngnjoofeaaGreatDoor.Pk
namespace Go.Proofs.YtjoefngnjoofeaaGreatDoor.Pk
open Eng Sh
set_option maxRecDepth 10000
theorem litB_rev_take (x n : Nat) {k : Nat} (h : k < n) : (litB x n).reverse.take (k + 1) = (litB x n).reverse.take k ++ [UInt8.ofNat (x / 256 ^ (n - 1 - k) % 256)] := by
 have hl := litB_len x n
 rw [rev_get (litB x n) (by omega), hl]
 congr 2
 simp [litB, List.getD_eq_getElem?_getD, show n - 1 - k < n by omega]
theorem big_ok (x n : Nat) (hx : x < 9223372036854775808) (hn : n ≤ 8) : SpecR Tryz.prog 34 [.int .u64 x, .int .i64 n] (.str (litB x n).reverse) := by
 refine Cod.big_spec (fun E R hN hR => ?_)
 have em : max (n : Int) 0 = n := by omega
 simp (disch := omega) only [go_sem, simprocAttr, em]
 refine vcW_loop hN (fun k : Nat => ⟨[(0, .int .u64 x), (1, .int .i64 n), (5, .sl 127029 0 k), (8, .int .i64 n), (9, .int .i64 k)], [(127029, .arr 1 (((litB x n).reverse.take k).map ub))]⟩) (fun k => k ≤ n) (fun k => n - k) 0 (.nil 5 127029 1 rfl (.le (by simp (disch := omega) only [go_sem, simprocAttr]))) (by omega) ?_
 rintro k R1 hk hR1
 have hl : ((litB x n).reverse.take k).length = k := by rw [List.length_take, List.length_reverse, litB_len]; omega
 by_cases hlt : k < n
 ·have hct := litB_rev_take x n hlt
  have e8 : ¬ (8 : Int) < (n : Int) - (k : Int) := by omega
  have hsh : (x : Int).fdiv (2 ^ min ((8 * ((n : Int) - 1 - (k : Int))).toNat) 64) = ((x / 256 ^ (n - 1 - k) : Nat) : Int) := by
   have e1 : (8 * ((n : Int) - 1 - (k : Int))).toNat = 8 * (n - 1 - k) := by omega
   rw [e1, Nat.min_eq_left (by omega), Int.fdiv_eq_ediv_of_nonneg _ (Int.pow_nonneg (by decide)), show (256 : Nat) = 2 ^ 8 from rfl, ← Nat.pow_mul]
   norm_cast
  generalize x / 256 ^ (n - 1 - k) = y at *
  have e3 : IntKind.u8.wrap (y : Int) = ((UInt8.ofNat (y % 256)).toNat : Int) := by
   rw [UInt8.toNat_ofNat']
   show (y : Int) % 256 = _
   omega
  simp (disch := omega) only [go_sem, simprocAttr, e8, hsh, e3]
  exact hR1 (k + 1) _ (by omega) (by omega) (.le (by rw [hct]; simp (disch := omega) only [go_sem, simprocAttr]; simp [ub]))
 ·obtain rfl : k = n := by omega
  rw [List.take_of_length_le (by rw [List.length_reverse, litB_len]; omega)] at hl ⊢
  simp (disch := omega) only [go_sem, simprocAttr]
  exact hR.wk (h' := []) (r' := .str (litB x k).reverse) (ar' := [.undef, .undef]) rfl (.le (by simp (disch := omega) only [go_sem, simprocAttr])) ⟨rfl, rfl⟩
def hd0 : Bs := packHd ++ [0, 0, 0, 0]
def pack0 : Bs := hd0 ++ sha1 hd0
theorem build_nil : SpecR Tryz.prog 15 [.nilsl] (.tup [.str pack0, .int .i64 (0 : Nat)]) := by
 refine Cod.pbuild_spec (fun E R hN hR => ?_)
 have h2 := big_ok 2 4 (by decide) (by decide)
 have h0 := big_ok 0 4 (by decide) (by decide)
 have hs := sum1_ok hd0 (by decide)
 have e2 : (litB 2 4).reverse = [0, 0, 0, 2] := by decide
 have e0 : (litB 0 4).reverse = [0, 0, 0, 0] := by decide
 rw [e2] at h2
 rw [e0] at h0
 unfold pack0 at hR
 simp (disch := omega) only [go_sem, simprocAttr]
 refine call_ro h2 rfl rfl ?_
 simp (disch := omega) only [go_sem, simprocAttr]
 refine call_ro h0 rfl rfl ?_
 simp (disch := omega) only [go_sem, simprocAttr]
 refine vcW_loop hN (fun _ : Unit => ⟨[(0, .nilsl), (4, .str hd0), (5, .nilsl), (25, .nilsl), (26, .int .i64 0), (27, .int .i64 0)], []⟩) (fun _ => True) (fun _ => 0) () (.le (by simp (disch := omega) only [go_sem, simprocAttr]; rfl)) trivial ?_
 rintro _ R1 _ hR1
 have hl : hd0.length = 12 := rfl
 generalize hd0 = d at *
 simp (disch := omega) only [go_sem, simprocAttr]
 refine call_ro hs rfl rfl ?_
 have hsl := sha1_len d
 simp (disch := omega) only [go_sem, simprocAttr]
 exact hR.ro ⟨rfl, rfl⟩
theorem count0 : countP pack0 = (0, 0) := by
 have hl : hd0.length = 12 := rfl
 have hs := sha1_len hd0
 have h8 : pack0.take 8 = packHd := by
  unfold pack0
  rw [List.take_append_of_le_length (by omega)]; rfl
 have h12 : (pack0.drop 8).take 4 = [0, 0, 0, 0] := by
  unfold pack0
  rw [List.drop_append_of_le_length (by omega), List.take_append_of_le_length (by rw [List.length_drop]; omega)]; rfl
 have hll : pack0.length = 32 := by unfold pack0; rw [List.length_append, hl, hs]
 have ht : pack0.take 12 = hd0 := by unfold pack0; rw [List.take_append_of_le_length (by omega), List.take_of_length_le (by omega)]
 have hd : pack0.drop 12 = sha1 hd0 := by unfold pack0; rw [← hl, List.drop_left]
 unfold countP
 rw [if_neg (by omega), if_neg (by simpa using h8), h12, show bigN [0, 0, 0, 0] = 0 by decide, if_neg (by decide), hll, ht, hd, if_neg (by simp)]
theorem read0 : (readP pack0 12).2 = 6 := by
 have hl : hd0.length = 12 := rfl
 have hs := sha1_len hd0
 have hll : pack0.length = 32 := by unfold pack0; rw [List.length_append, hl, hs]
 have ht : pack0.take 12 = hd0 := by unfold pack0; rw [List.take_append_of_le_length (by omega), List.take_of_length_le (by omega)]
 unfold readP
 rw [if_neg (by rw [hll]; decide), hll, show 32 - 20 = 12 from rfl, ht, show (12 : Int).toNat = 12 from rfl]
 unfold readE
 rw [show headP hd0 12 = (0, 0, 0, 6) from if_pos (by decide)]
 rfl
set_option maxHeartbeats 1000000 in
theorem awake_ok : SpecR Tryz.prog 12 [] (.bool true) := by
 refine Cod.awake11_spec (fun E R hN hR => ?_)
 have hl : hd0.length = 12 := rfl
 have hs := sha1_len hd0
 have hll : pack0.length = 32 := by unfold pack0; rw [List.length_append, hl, hs]
 have ht : pack0.take 12 = [80, 65, 67, 75, 0, 0, 0, 2, 0, 0, 0, 0] := by unfold pack0; rw [List.take_append_of_le_length (by omega), List.take_of_length_le (by omega)]; rfl
 have hc := pcount_ok pack0 (by omega)
 have hr := pread_ok pack0 12 (by omega) (by decide)
 have hb := build_nil
 rw [count0] at hc
 rw [read0] at hr
 generalize (readP pack0 12).1 = e at *
 generalize pack0 = s at *
 simp (disch := omega) only [go_sem, simprocAttr]
 refine call_ro hb rfl rfl ?_
 simp (disch := omega) only [go_sem, simprocAttr]
 refine call_ro hc rfl rfl ?_
 simp (disch := omega) only [go_sem, simprocAttr]
 refine call_ro hr rfl rfl ?_
 simp (disch := omega) only [go_sem, simprocAttr, enL]
 (repeat (first | refine gskip_of ?_ | refine gcskip_of ?_ | refine gopen_of ?_) <;> simp (disch := omega) only [go_sem, simprocAttr, hll, ht])
 exact hR.ro ⟨rfl, rfl⟩
theorem allL_len (s : Bs) : ∀ (n p : Nat) (out : List En), (allL s n p out).1.length ≤ out.length + n
 | 0, p, out => Nat.le_refl _
 | n + 1, p, out => by
  unfold allL
  split
  ·exact Nat.zero_le _
  ·have := allL_len s n (readP s p).1.next (out ++ [(readP s p).1])
   rw [List.length_append, List.length_singleton] at this
   omega
theorem all_len (s : Bs) : (allP s).1.length ≤ 100000 := by
 have h1 := (count_le s).1
 have h2 := allL_len s (countP s).1 12 []
 rw [List.length_nil] at h2
 unfold allP
 split
 ·simp
 ·split
  ·simp
  ·split
   ·simp
   ·simp only; omega
set_option maxHeartbeats 1000000 in
theorem packreads_ok (s : Bs) (a : Int) (hs : s.length ≤ 4000000000000000000) (ha : -9223372036854775808 ≤ a ∧ a ≤ 9223372036854775807) : SpecR Tryz.prog 3 [.str s, .int .i64 a] (.bool true) := by
 refine Cod.packreads_spec (fun E R hN hR => ?_)
 have hf := few_ok s 700 hs (by decide)
 simp (disch := omega) only [go_sem, simprocAttr]
 refine call_ro hf rfl rfl ?_
 have htl : (s.take 700).length ≤ 700 := by rw [List.length_take]; omega
 generalize s.take 700 = t at *
 have h1 := pcount_ok t (by omega)
 have h2 := rcount_ok t (by omega)
 have h3 := pread_ok t a (by omega) ha
 have h4 := rread11_ok t a (by omega) ha
 have h5 := pall_ok t (by omega)
 have h6 := rall11_ok t (by omega)
 have h7 := awake_ok
 generalize countP t = C at *
 generalize readP t a = X at *
 generalize hAl : allP t = L at *
 have hLl : L.1.length ≤ 100000 := by rw [← hAl]; exact all_len t
 simp (disch := omega) only [go_sem, simprocAttr]
 refine call_ro h1 rfl rfl ?_
 simp (disch := omega) only [go_sem, simprocAttr]
 refine call_ro h2 rfl rfl ?_
 simp (disch := omega) only [go_sem, simprocAttr]
 refine call_ro h3 rfl rfl ?_
 simp (disch := omega) only [go_sem, simprocAttr, enL]
 refine call_ro h4 rfl rfl ?_
 simp (disch := omega) only [go_sem, simprocAttr, enL]
 refine call_ro' h5 rfl ?_
 rintro h' v ar ⟨rfl, P1, rfl, hP1⟩
 have n1 : noRefT (.tup [P1, .int .i64 (L.2 : Nat)]) = true := by rcases hP1 with rfl | ⟨_, rfl⟩ <;> rfl
 refine ⟨rfl, n1, ?_⟩
 have hP1' : P1 = .nilsl ∨ P1 = .ro 7 (ensA L.1) := by rcases hP1 with h | ⟨_, h⟩; exact .inr h; exact .inl h
 rcases hP1' with rfl | rfl
 all_goals
  simp (disch := omega) only [go_sem, simprocAttr]
  refine call_ro' h6 rfl ?_
  rintro h' v ar ⟨rfl, P2, rfl, hP2⟩
  have n2 : noRefT (.tup [P2, .int .i64 (L.2 : Nat)]) = true := by rcases hP2 with rfl | ⟨_, rfl⟩ <;> rfl
  refine ⟨rfl, n2, ?_⟩
  have hsm := same_ok L.1 hLl _ _ hP1 hP2
  have hP2' : P2 = .nilsl ∨ P2 = .ro 7 (ensA L.1) := by rcases hP2 with h | ⟨_, h⟩; exact .inr h; exact .inl h
  rcases hP2' with rfl | rfl
 all_goals
  simp (disch := omega) only [go_sem, simprocAttr]
  refine call_ro h7 rfl rfl ?_
  simp (disch := omega) only [go_sem, simprocAttr]
  (repeat (first | refine gskip_of ?_ | refine gcskip_of ?_ | refine gopen_of ?_) <;> simp (disch := omega) only [go_sem, simprocAttr])
  refine gcyes_of (callT_ro (by simp (disch := omega) only [go_sem, simprocAttr]) hsm (by simp (disch := omega) only [go_sem, simprocAttr]) rfl rfl ?_)
  simp (disch := omega) only [go_sem, simprocAttr]
  (repeat (first | refine gskip_of ?_ | refine gcskip_of ?_ | refine gopen_of ?_) <;> simp (disch := omega) only [go_sem, simprocAttr])
  exact hR.ro ⟨rfl, rfl⟩
end Go.Proofs.YtjoefngnjoofeaaGreatDoor.Pk
