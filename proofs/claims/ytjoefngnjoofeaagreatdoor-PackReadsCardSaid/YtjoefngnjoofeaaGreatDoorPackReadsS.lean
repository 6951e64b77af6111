/- The proof, part 19 of 23. -/
import Derived.Test.YtjoefngnjoofeaaGreatDoorPackReadsQ
import Derived.Test.YtjoefngnjoofeaaGreatDoorPackReadsR
import Derived.Test.YtjoefngnjoofeaaGreatDoorProg
import Derived.KernelRfl
set_option linter.all false
namespace Go.Proofs.YtjoefngnjoofeaaGreatDoor.Pk
open Eng
set_option maxRecDepth 10000
def RD : Nat := 40014
attribute [go_sem] RD
def rdA (s : Bs) (a hv fr : Nat) : List AV := [.str s, .int .i64 a, .int .u64 (numAt s (8 * a - hv) hv : Nat), .int .i64 hv, .int .i64 fr]
structure RdOK (s : Bs) (a hv p : Nat) : Prop where
 h1 : hv ≤ 39
 h2 : a ≤ s.length
 h3 : p + hv = 8 * a
theorem or_fill {x k b : Nat} (hx : x < 2 ^ k) (hk : k ≤ 56) (hb : b < 256) : bits .or .u64 (x : Int) (IntKind.u64.wrap ((b : Int) * 2 ^ min k 64)) = ((x + b * 2 ^ k : Nat) : Int) := by
 have hp : 2 ^ k ≤ 2 ^ 56 := Nat.pow_le_pow_right (by decide) hk
 have h2 : b * 2 ^ k < 2 ^ 64 := Nat.lt_of_le_of_lt (Nat.mul_le_mul (show b ≤ 255 by omega) hp) (by decide)
 have h3 : x + b * 2 ^ k < 2 ^ 64 := by
  have : (b + 1) * 2 ^ k ≤ 256 * 2 ^ 56 := Nat.mul_le_mul (by omega) hp
  rw [Nat.add_mul] at this
  omega
 have e : IntKind.u64.wrap ((b : Int) * 2 ^ min k 64) = ((b * 2 ^ k : Nat) : Int) := by
  rw [Nat.min_eq_left (by omega), show ((b : Int) * 2 ^ k) = ((b * 2 ^ k : Nat) : Int) by push_cast; rfl]
  exact wrap_u64 (by omega)
 rw [e]
 show IntKind.u64.wrap ((BitVec.ofInt 64 (x : Int) ||| BitVec.ofInt 64 ((b * 2 ^ k : Nat) : Int)).toNat : Int) = _
 rw [BitVec.ofInt_natCast, BitVec.ofInt_natCast, BitVec.toNat_or, BitVec.toNat_ofNat, BitVec.toNat_ofNat, Nat.mod_eq_of_lt (by omega), Nat.mod_eq_of_lt h2, Nat.or_comm, ← Nat.shiftLeft_eq, ← Nat.shiftLeft_add_eq_or_of_lt hx, Nat.shiftLeft_eq, Nat.add_comm]
 exact wrap_u64 (by omega)
theorem fill_ok (s : Bs) (a hv fr p n : Nat) (hs : s.length ≤ 1000000000000) (h : RdOK s a hv p) (hn : n ≤ 32) : Eng.Spec Tryz.prog 128 [(RD, .var (rdA s a hv fr))] [.vptr RD 0, .int .i64 n]
    (fun h' v ar => ∃ a' hv', RdOK s a' hv' p ∧ (n ≤ hv' ∨ a' = s.length) ∧ h' = [(RD, .var (rdA s a' hv' fr))] ∧ v = .tup [] ∧ ar = [.vptr RD 0, .int .i64 n]) := by
 refine Cod.fill_spec (fun E R hN hR => ?_)
 simp (disch := omega) only [go_sem, simprocAttr]
 refine vcW_loop hN (fun q : Nat × Nat => ⟨[(0, .vptr RD 0), (1, .int .i64 n), (2000000, .vptr RD 0), (2000001, .int .i64 n)], [(RD, .var (rdA s q.1 q.2 fr))]⟩) (fun q => RdOK s q.1 q.2 p) (fun q => s.length - q.1) (a, hv) (.le (by simp (disch := omega) only [go_sem, simprocAttr, rdA])) h ?_
 rintro ⟨a, hv⟩ R1 ⟨h1, h2, h3⟩ hR1
 simp only at h1 h2 h3
 by_cases hlt : hv < n
 ·by_cases hat : a < s.length
  ·have hb := (s.getD a 0).toNat_lt
   have ho := or_fill (num_lt s (8 * a - hv) hv) (show hv ≤ 56 by omega) (b := (s.getD a 0).toNat) (by omega)
   have hf := num_fill s a hv (by omega)
   rw [← hf] at ho
   simp (disch := omega) only [go_sem, simprocAttr, rdA]
   (repeat (first | refine gskip_of ?_ | refine gcskip_of ?_ | refine gopen_of ?_) <;> simp (disch := omega) only [go_sem, simprocAttr])
   rw [ho]
   exact hR1 (a + 1, hv + 8) _ (by simp only; omega) ⟨by simp only; omega, by simp only; omega, by simp only; omega⟩ (.le (by simp (disch := omega) only [go_sem, simprocAttr, rdA, show 8 * (a + 1) - (hv + 8) = 8 * a - hv by omega]))
  ·simp (disch := omega) only [go_sem, simprocAttr, rdA]
   (repeat (first | refine gskip_of ?_ | refine gcskip_of ?_ | refine gopen_of ?_) <;> simp (disch := omega) only [go_sem, simprocAttr])
   exact hR.le (by simp (disch := omega) only [go_sem, simprocAttr, rdA]) ⟨a, hv, ⟨h1, h2, h3⟩, .inr (by omega), rfl, rfl, rfl⟩
 ·simp (disch := omega) only [go_sem, simprocAttr, rdA]
  (repeat (first | refine gskip_of ?_ | refine gcskip_of ?_ | refine gopen_of ?_) <;> simp (disch := omega) only [go_sem, simprocAttr])
  exact hR.le (by simp (disch := omega) only [go_sem, simprocAttr, rdA]) ⟨a, hv, ⟨h1, h2, h3⟩, .inl (by omega), rfl, rfl, rfl⟩
theorem and_mask (x n : Nat) (hx : x < 2 ^ 64) (hn : n ≤ 32) : bits .and .u64 (x : Int) (IntKind.u64.wrap (IntKind.u64.wrap (1 * 2 ^ min n 64) - 1)) = ((x % 2 ^ n : Nat) : Int) := by
 have hp : 2 ^ n ≤ 2 ^ 32 := Nat.pow_le_pow_right (by decide) hn
 have hp1 : 0 < 2 ^ n := Nat.pow_pos (by decide)
 have e : IntKind.u64.wrap (IntKind.u64.wrap (1 * 2 ^ min n 64) - 1) = ((2 ^ n - 1 : Nat) : Int) := by
  have e1 : IntKind.u64.wrap (1 * 2 ^ n) = ((2 ^ n : Nat) : Int) := by
   rw [show ((1 : Int) * 2 ^ n) = ((2 ^ n : Nat) : Int) by rw [Int.one_mul]; push_cast; rfl]
   exact wrap_u64 (by omega)
  rw [Nat.min_eq_left (by omega), e1, show (((2 ^ n : Nat) : Int) - 1) = ((2 ^ n - 1 : Nat) : Int) by omega]
  exact wrap_u64 (by omega)
 rw [e]
 show IntKind.u64.wrap ((BitVec.ofInt 64 (x : Int) &&& BitVec.ofInt 64 ((2 ^ n - 1 : Nat) : Int)).toNat : Int) = _
 rw [BitVec.ofInt_natCast, BitVec.ofInt_natCast, BitVec.toNat_and, BitVec.toNat_ofNat, BitVec.toNat_ofNat, Nat.mod_eq_of_lt hx, Nat.mod_eq_of_lt (by omega), Nat.and_two_pow_sub_one_eq_mod]
 have := Nat.mod_lt x hp1
 exact wrap_u64 (by omega)
def leftB (s : Bs) (p : Nat) : Nat := 8 * s.length - p
theorem peek_ok (s : Bs) (a hv fr p n : Nat) (hs : s.length ≤ 1000000000000) (h : RdOK s a hv p) (hn : n ≤ 32) : Eng.Spec Tryz.prog 119 [(RD, .var (rdA s a hv fr))] [.vptr RD 0, .int .i64 n]
    (fun h' v ar => ∃ a' hv', RdOK s a' hv' p ∧ (n ≤ hv' ∨ a' = s.length) ∧ h' = [(RD, .var (rdA s a' hv' fr))] ∧ v = .tup [.int .u32 (numAt s p (min n hv') : Nat), .int .i64 (min n hv' : Nat)] ∧ ar = [.vptr RD 0, .int .i64 n]) := by
 refine Cod.peek_spec (fun E R hN hR => ?_)
 simp (disch := omega) only [go_sem, simprocAttr]
 (repeat (first | refine gskip_of ?_ | refine gcskip_of ?_ | refine gopen_of ?_) <;> simp (disch := omega) only [go_sem, simprocAttr])
 refine call_win [(RD, .var (rdA s a hv fr))] (fill_ok s a hv fr p n hs h hn) (by simp (disch := omega) only [go_sem, simprocAttr]) nofun ?_
 rintro h' v ar ⟨a', hv', ⟨h1, h2, h3⟩, hor, rfl, rfl, rfl⟩
 refine ⟨by simp (disch := omega) only [go_sem, simprocAttr, rdA], rfl, ?_⟩
 have hx := num_lt s p hv'
 have hx2 : numAt s p hv' < 2 ^ 64 := Nat.lt_of_lt_of_le hx (Nat.pow_le_pow_right (by decide) (by omega))
 have ha := and_mask (numAt s p hv') n hx2 hn
 have e1 : numAt s p hv' % 2 ^ n = numAt s p (min n hv') := by
  by_cases hh : n ≤ hv'
  ·rw [Nat.min_eq_left hh, num_mod s p hh]
  ·rw [Nat.min_eq_right (by omega), Nat.mod_eq_of_lt (Nat.lt_of_lt_of_le hx (Nat.pow_le_pow_right (by decide) (by omega)))]
 rw [e1] at ha
 have hx3 : numAt s p (min n hv') < 2 ^ 32 := Nat.lt_of_lt_of_le (num_lt s p _) (Nat.pow_le_pow_right (by decide) (by omega))
 have ew : IntKind.u32.wrap ((numAt s p (min n hv') : Nat) : Int) = (numAt s p (min n hv') : Nat) := wrap_u32 (by omega)
 have em : min (n : Int) (hv' : Int) = ((min n hv' : Nat) : Int) := by omega
 simp (disch := omega) only [go_sem, simprocAttr, rdA, show 8 * a' - hv' = p by omega, ha, ew, em]
 exact hR.le (by simp (disch := omega) only [go_sem, simprocAttr, rdA, show 8 * a' - hv' = p by omega]) ⟨a', hv', ⟨h1, h2, h3⟩, hor, rfl, rfl, rfl⟩
theorem skip_ok (s : Bs) (a hv fr p n : Nat) (hs : s.length ≤ 1000000000000) (h : RdOK s a hv p) (hn : n ≤ 32) : Eng.Spec Tryz.prog 120 [(RD, .var (rdA s a hv fr))] [.vptr RD 0, .int .i64 n]
    (fun h' v ar => ∃ a' hv', RdOK s a' hv' (if n ≤ leftB s p then p + n else p) ∧ h' = [(RD, .var (rdA s a' hv' fr))] ∧ v = .bool (decide (n ≤ leftB s p)) ∧ ar = [.vptr RD 0, .int .i64 n]) := by
 refine Cod.skip_spec (fun E R hN hR => ?_)
 simp (disch := omega) only [go_sem, simprocAttr]
 (repeat (first | refine gskip_of ?_ | refine gcskip_of ?_ | refine gopen_of ?_) <;> simp (disch := omega) only [go_sem, simprocAttr])
 refine call_win [(RD, .var (rdA s a hv fr))] (fill_ok s a hv fr p n hs h hn) (by simp (disch := omega) only [go_sem, simprocAttr]) nofun ?_
 rintro h' v ar ⟨a', hv', ⟨h1, h2, h3⟩, hor, rfl, rfl, rfl⟩
 refine ⟨by simp (disch := omega) only [go_sem, simprocAttr, rdA], rfl, ?_⟩
 by_cases hlt : hv' < n
 ·have hno : ¬ n ≤ leftB s p := by unfold leftB; rcases hor with ho | ho <;> omega
  simp (disch := omega) only [go_sem, simprocAttr, rdA]
  exact hR.le (by simp (disch := omega) only [go_sem, simprocAttr, rdA]) ⟨a', hv', by rw [if_neg hno]; exact ⟨h1, h2, h3⟩, rfl, by rw [decide_eq_false hno], rfl⟩
 ·have hyes : n ≤ leftB s p := by unfold leftB; omega
  have hd : ((numAt s p hv' : Nat) : Int).fdiv (2 ^ min n 64) = ((numAt s (p + n) (hv' - n) : Nat) : Int) := by
   rw [Nat.min_eq_left (by omega), ← num_div s p (show n ≤ hv' by omega), Int.fdiv_eq_ediv_of_nonneg _ (Int.pow_nonneg (by decide)), Int.natCast_ediv, Int.natCast_pow]; rfl
  simp (disch := omega) only [go_sem, simprocAttr, rdA, show 8 * a' - hv' = p by omega, hd]
  refine hR.le ?_ ⟨a', hv' - n, by rw [if_pos hyes]; exact ⟨by omega, h2, by omega⟩, rfl, by rw [decide_eq_true hyes], rfl⟩
  rw [show ((hv' : Int) - (n : Int)) = ((hv' - n : Nat) : Int) by omega]
  simp (disch := omega) only [go_sem, simprocAttr, rdA, show 8 * a' - (hv' - n) = p + n by omega]
theorem rbits_ok (s : Bs) (a hv fr p n : Nat) (hs : s.length ≤ 1000000000000) (h : RdOK s a hv p) (hn : n ≤ 32) : Eng.Spec Tryz.prog 103 [(RD, .var (rdA s a hv fr))] [.vptr RD 0, .int .i64 n]
    (fun h' v ar => ∃ a' hv', RdOK s a' hv' (if n ≤ leftB s p then p + n else p) ∧ h' = [(RD, .var (rdA s a' hv' fr))] ∧ v = .tup [.int .u32 (if n ≤ leftB s p then numAt s p n else 0 : Nat), .bool (decide (n ≤ leftB s p))] ∧ ar = [.vptr RD 0, .int .i64 n]) := by
 refine Cod.rbits_spec (fun E R hN hR => ?_)
 simp (disch := omega) only [go_sem, simprocAttr]
 refine call_win [(RD, .var (rdA s a hv fr))] (peek_ok s a hv fr p n hs h hn) (by simp (disch := omega) only [go_sem, simprocAttr]) nofun ?_
 rintro h' v ar ⟨a', hv', h1, hor, rfl, rfl, rfl⟩
 refine ⟨by simp (disch := omega) only [go_sem, simprocAttr, rdA], rfl, ?_⟩
 simp (disch := omega) only [go_sem, simprocAttr]
 refine call_win [(RD, .var (rdA s a' hv' fr))] (skip_ok s a' hv' fr p n hs h1 hn) (by simp (disch := omega) only [go_sem, simprocAttr]) nofun ?_
 rintro h' v ar ⟨a2, hv2, h2, rfl, rfl, rfl⟩
 refine ⟨by simp (disch := omega) only [go_sem, simprocAttr, rdA], rfl, ?_⟩
 by_cases hyes : n ≤ leftB s p
 ·have hm : min n hv' = n := by
   have := h1.h3; have := h1.h2
   unfold leftB at hyes
   rcases hor with ho | ho <;> omega
  simp (disch := omega) only [go_sem, simprocAttr, hyes, hm]
  exact hR.le (by simp (disch := omega) only [go_sem, simprocAttr]) ⟨a2, hv2, h2, rfl, by rw [if_pos hyes, decide_eq_true hyes], rfl⟩
 ·simp (disch := omega) only [go_sem, simprocAttr, hyes]
  exact hR.le (by simp (disch := omega) only [go_sem, simprocAttr]) ⟨a2, hv2, h2, rfl, by rw [if_neg hyes, decide_eq_false hyes]; rfl, rfl⟩
def upB (p : Nat) : Nat := (p + 7) / 8 * 8
theorem up_at {a hv p : Nat} (h : p + hv = 8 * a) : upB p = 8 * (a - hv / 8) := by unfold upB; omega
theorem ralign_ok (s : Bs) (a hv fr p : Nat) (hs : s.length ≤ 1000000000000) (h : RdOK s a hv p) : Eng.Spec Tryz.prog 129 [(RD, .var (rdA s a hv fr))] [.vptr RD 0]
    (fun h' v ar => ∃ hv', RdOK s a hv' (upB p) ∧ hv' = 8 * (hv / 8) ∧ h' = [(RD, .var (rdA s a hv' fr))] ∧ v = .tup [] ∧ ar = [.vptr RD 0]) := by
 refine Cod.ralign_spec (fun E R hN hR => ?_)
 obtain ⟨h1, h2, h3⟩ := h
 have hp : 8 * a - hv = p := by omega
 have em : (hv : Int).tmod 8 = ((hv % 8 : Nat) : Int) := by rw [tmod_pos (by omega)]; omega
 have hd : ((numAt s p hv : Nat) : Int).fdiv (2 ^ min (hv % 8) 64) = ((numAt s (p + hv % 8) (hv - hv % 8) : Nat) : Int) := by
  rw [Nat.min_eq_left (by omega), ← num_div s p (show hv % 8 ≤ hv by omega), Int.fdiv_eq_ediv_of_nonneg _ (Int.pow_nonneg (by decide)), Int.natCast_ediv, Int.natCast_pow]; rfl
 simp (disch := omega) only [go_sem, simprocAttr, rdA, em, hp, hd]
 refine hR.le ?_ ⟨8 * (hv / 8), ⟨by omega, h2, by unfold upB; omega⟩, rfl, rfl, rfl, rfl⟩
 rw [show ((hv : Int) - ((hv % 8 : Nat) : Int)) = ((8 * (hv / 8) : Nat) : Int) by omega, show hv - hv % 8 = 8 * (hv / 8) by omega]
 simp (disch := omega) only [go_sem, simprocAttr, rdA, show 8 * a - 8 * (hv / 8) = p + hv % 8 by omega]
theorem rbytes_ok (s : Bs) (a hv fr p : Nat) (n : Nat) (hs : s.length ≤ 1000000000000) (hn : n ≤ 1000000000000) (h : RdOK s a hv p) : Eng.Spec Tryz.prog 121 [(RD, .var (rdA s a hv fr))] [.vptr RD 0, .int .i64 n]
    (fun h' v ar => ∃ a' hv', RdOK s a' hv' (if n ≤ s.length - upB p / 8 then upB p + 8 * n else upB p) ∧ (n ≤ s.length - upB p / 8 → hv' = 0) ∧ h' = [(RD, .var (rdA s a' hv' fr))] ∧
     v = .tup [.str (if n ≤ s.length - upB p / 8 then (s.drop (upB p / 8)).take n else []), .bool (decide (n ≤ s.length - upB p / 8))] ∧ ar = [.vptr RD 0, .int .i64 n]) := by
 refine Cod.rbytes_spec (fun E R hN hR => ?_)
 simp (disch := omega) only [go_sem, simprocAttr]
 refine call_win [(RD, .var (rdA s a hv fr))] (ralign_ok s a hv fr p hs h) (by simp (disch := omega) only [go_sem, simprocAttr]) nofun ?_
 rintro h' v ar ⟨hv', ⟨h1, h2, h3⟩, rfl, rfl, rfl, rfl⟩
 refine ⟨by simp (disch := omega) only [go_sem, simprocAttr, rdA], rfl, ?_⟩
 have hub : upB p / 8 = a - hv / 8 := by rw [up_at h.h3]; omega
 have hle := h.h3
 have eq : (((8 * (hv / 8) : Nat) : Int)).tdiv 8 = ((hv / 8 : Nat) : Int) := by rw [tdiv_pos (by omega)]; omega
 have ef : ((a : Int) - ((hv / 8 : Nat) : Int)) = ((a - hv / 8 : Nat) : Int) := by omega
 rw [hub] at hR
 generalize hf : a - hv / 8 = f at *
 have hfl : f ≤ s.length := by omega
 by_cases hyes : n ≤ s.length - f
 ·have e1 : ((f : Int) + (n : Int) - (f : Int)).toNat = n := by omega
  have e2 : f + n - f = n := by omega
  simp (disch := omega) only [go_sem, simprocAttr, rdA, eq, ef]
  (repeat (first | refine gskip_of ?_ | refine gcskip_of ?_ | refine gopen_of ?_) <;> simp (disch := omega) only [go_sem, simprocAttr])
  simp (disch := omega) only [go_sem, simprocAttr, e2]
  exact hR.le (by simp (disch := omega) only [go_sem, simprocAttr, rdA, numAt]) ⟨f + n, 0, by rw [if_pos hyes]; exact ⟨by omega, by omega, by rw [up_at h.h3, hf]; omega⟩, fun _ => rfl, rfl, by rw [if_pos hyes, decide_eq_true hyes], rfl⟩
 ·simp (disch := omega) only [go_sem, simprocAttr, rdA, eq, ef]
  (repeat (first | refine gskip_of ?_ | refine gcskip_of ?_ | refine gopen_of ?_) <;> simp (disch := omega) only [go_sem, simprocAttr])
  exact hR.le (by simp (disch := omega) only [go_sem, simprocAttr, rdA]) ⟨a, 8 * (hv / 8), by rw [if_neg hyes]; exact ⟨h1, h2, h3⟩, fun hh => absurd hh hyes, rfl, by rw [if_neg hyes, decide_eq_false hyes], rfl⟩
end Go.Proofs.YtjoefngnjoofeaaGreatDoor.Pk
namespace Go.Proofs.YtjoefngnjoofeaaGreatDoor.Pk
open Eng
set_option maxRecDepth 10000
def nats (xs : List Nat) : List AV := xs.map fun n : Nat => AV.int .i64 n
theorem nats_len (xs : List Nat) : (nats xs).length = xs.length := by simp [nats]
theorem nth_nats {xs : List Nat} {i : Nat} (h : i < xs.length) : nth (nats xs) i = .int .i64 (xs.getD i 0 : Nat) := by
 simp [nth, nats, List.getD_eq_getElem?_getD, h]
theorem nats_cells {xs : List Nat} : (nats xs).all cellsOK = true := by simp [nats, cellsOK, cellsOf, isCell]
theorem nats_app {xs : List Nat} {n : Nat} : nats xs ++ [.int .i64 (n : Int)] = nats (xs ++ [n]) := by simp [nats]
theorem nats_sub {xs : List Nat} {o n : Nat} : sub3 (nats xs) o n = nats ((xs.drop o).take n) := by simp [nats, sub3]
theorem nats_nil : nats [] = [] := (rfl)
def cntsA (l : List Nat) : List AV := (List.range 16).map fun n => AV.int .i64 (cntL l n : Nat)
theorem cnts_len (l : List Nat) : (cntsA l).length = 16 := by simp [cntsA]
theorem cnts_get (l : List Nat) {n : Nat} (h : n < 16) : (cntsA l).getD n .undef = .int .i64 (cntL l n : Nat) := by
 unfold cntsA
 rw [List.getD_eq_getElem?_getD, List.getElem?_map, List.getElem?_range h]; rfl
theorem cnts_step (l : List Nat) {x : Nat} (h : x < 16) : (cntsA l).set x (.int .i64 ((cntL l x : Int) + 1)) = cntsA (l ++ [x]) := by
 apply List.ext_getElem?
 intro j
 rw [List.getElem?_set, cnts_len]
 unfold cntsA
 rw [List.getElem?_map, List.getElem?_map]
 by_cases hx : x = j
 ·subst hx
  rw [if_pos rfl, if_pos h, List.getElem?_range h]
  simp only [Option.map_some, cnt_snoc, if_true]
  rfl
 ·rw [if_neg hx]
  by_cases hj : j < 16
  ·rw [List.getElem?_range hj]
   simp only [Option.map_some, cnt_snoc, if_neg hx, Nat.add_zero]
  ·rw [List.getElem?_eq_none (by simp; omega)]; rfl
theorem cnts_kill {id : Nat} {l : List Nat} : (cntsA l).map (killC id) = cntsA l := by simp [cntsA, killC]
theorem cnts_frz {id sz : Nat} {es : List AV} {l : List Nat} : (cntsA l).map (frzC id sz es) = cntsA l := by simp [cntsA, frzC]
theorem cnts_ref {l : List Nat} : (cntsA l).all noRefC = true := by simp [cntsA, noRefC]
theorem cnt_le (l : List Nat) (n : Nat) : cntL l n ≤ l.length := List.countP_le_length
theorem pre_le (l : List Nat) : ∀ n, preL l n ≤ l.length * n
 | 0 => by simp [preL]
 | 1 => by simp [preL]
 | n + 2 => by
  have := pre_le l (n + 1)
  have := cnt_le l (n + 1)
  simp only [preL]
  rw [show n + 2 = (n + 1) + 1 by omega, Nat.mul_succ l.length (n + 1)]
  omega
def symsTo (l : List Nat) (n k : Nat) : List Nat := (List.range k).filter fun s => l.getD s 0 == n
theorem symsTo_len (l : List Nat) (n k : Nat) : (symsTo l n k).length ≤ k := by
 have := List.length_filter_le (fun s => l.getD s 0 == n) (List.range k)
 simpa [symsTo] using this
theorem symsTo_succ (l : List Nat) (n k : Nat) : symsTo l n (k + 1) = symsTo l n k ++ if l.getD k 0 = n then [k] else [] := by
 unfold symsTo
 rw [List.range_succ, List.filter_append]
 congr 1
 by_cases h : l.getD k 0 = n <;> simp [-List.getD_eq_getElem?_getD, h]
theorem symsTo_all (l : List Nat) (n : Nat) : symsTo l n l.length = symsL l n := (rfl)
theorem mid_drop {a b : AV} {xs : List AV} {i : Nat} (h : i < xs.length) : ((a :: (xs ++ [b])).drop (1 + i)).getD 0 .undef = xs.getD i .undef := by
 rw [Nat.add_comm, List.drop_succ_cons, List.getD_eq_getElem?_getD, List.getElem?_drop, Nat.add_zero, List.getElem?_append_left h, List.getD_eq_getElem?_getD]
theorem mid_len {a b : AV} {xs : List AV} {i : Nat} (h : i < xs.length) : 0 < ((a :: (xs ++ [b])).drop (1 + i)).length := by simp; omega
theorem mid_seg {a b v : AV} {xs : List AV} {i : Nat} (h : i < xs.length) : seg (a :: (xs ++ [b])) (1 + i) [v] = a :: (xs.set i v ++ [b]) := by
 unfold seg
 rw [Nat.add_comm 1 i, List.take_succ_cons, show i + 1 + [v].length = (i + 1) + 1 by simp, List.drop_succ_cons, List.take_append_of_le_length (by omega), List.drop_append_of_le_length (by omega), List.set_eq_take_append_cons_drop, if_pos h]
 simp
theorem end_seg {a b v : AV} {xs : List AV} (h : xs.length = 16) : seg (a :: (xs ++ [b])) 17 [v] = a :: (xs ++ [v]) := by
 unfold seg
 rw [List.take_succ_cons, show 17 + [v].length = 17 + 1 by rfl, List.drop_succ_cons, List.take_left' h, List.drop_append]
 simp [h]
theorem end_set {a b v : AV} {xs : List AV} (h : xs.length = 16) : (a :: (xs ++ [b])).set 17 v = a :: (xs ++ [v]) := by
 rw [List.set_cons_succ, List.set_append_right _ _ (by omega), h]; rfl
theorem end_get {a b : AV} {xs : List AV} (h : xs.length = 16) : (a :: (xs ++ [b]))[17]? = some b := by
 rw [List.getElem?_cons_succ, List.getElem?_append_right (by omega), h]; rfl
theorem end_drop {a b : AV} {xs : List AV} (h : xs.length = 16) : (a :: (xs ++ [b])).drop 17 = [b] := by
 rw [List.drop_succ_cons, List.drop_left' h]
def tblC (l : List Nat) : List AV := .ro 1 (nats l) :: (cntsA l ++ [.ro 1 (nats (sortL l 15))])
def tblA (l : List Nat) : AV := .elt (.agg (tblC l))
def roomL (l : List Nat) (m : Nat) : Int := if m = 0 then 1 else (2 ^ m : Nat) - ((fstL l m + cntL l m : Nat) : Int)
theorem room_step (l : List Nat) (m : Nat) : roomL l (m + 1) = 2 * roomL l m - (cntL l (m + 1) : Int) := by
 unfold roomL
 cases m with
 | zero => simp [fstL]
 | succ m =>
  rw [if_neg (by omega), if_neg (by omega)]
  simp only [fstL]
  rw [Nat.pow_succ 2 (m + 1)]
  omega
theorem room_le (l : List Nat) {m : Nat} (h : m ≤ 15) : roomL l m ≤ 32768 := by
 unfold roomL
 have : (2 : Nat) ^ m ≤ 2 ^ 15 := Nat.pow_le_pow_right (by decide) h
 split <;> omega
theorem room_neg (l : List Nat) {m : Nat} (h1 : 1 ≤ m) (h2 : m ≤ 15) (h : roomL l m < 0) : 32768 < totL l := by
 refine Nat.lt_of_not_le fun hc => ?_
 have := kraft hc h1 h2
 unfold roomL at h
 rw [if_neg (by omega)] at h
 omega
theorem room_end (l : List Nat) : roomL l 15 = 32768 - (totL l : Int) := by
 unfold roomL totL
 rw [if_neg (by omega)]
 rfl
theorem hnew_ok (l : List Nat) (hl : ∀ n ∈ l, n ≤ 15) (hn : l.length ≤ 320) : Eng.Spec Tryz.prog 115 [] [.ro 1 (nats l)] (fun h r _ => h = [] ∧ r = if chkL l then .tup [tblA l, .int .i64 0] else .tup [.lit (.pointer none), .int .i64 4]) := by
 refine Cod.hnew_spec (fun E R hN hR => ?_)
 have hnl := nats_len l
 simp (disch := first | omega | (simp only [Lx]; omega)) only [go_sem, simprocAttr, nats_len, nats_cells]
 (repeat (first | refine gskip_of ?_ | refine gcskip_of ?_ | refine gopen_of ?_) <;> simp (disch := first | omega | (simp only [Lx]; omega)) only [go_sem, simprocAttr])
 refine vcW_loop hN (fun k : Nat => ⟨[(0, .ro 1 (nats l)), (4, .vptr 49018 0), (19, .ro 1 (nats l)), (20, .int .i64 l.length), (21, .int .i64 k)], [(49018, .var (.sl 49016 0 l.length :: (cntsA (l.take k) ++ [.nilsl]))), (49016, .arr 1 (nats l))]⟩) (fun k => k ≤ l.length) (fun k => l.length - k) 0 (.le (by simp (disch := first | omega | (simp only [Lx]; omega)) only [go_sem, simprocAttr, nats_len]; rfl)) (by omega) ?_
 rintro k R1 hk hR1
 have hcl := cnts_len (l.take k)
 by_cases hlt : k < l.length
 ·have hx := len15 hl k
  have htk := take_snoc l 0 hlt
  have hcs := cnts_step (l.take k) (x := l.getD k 0) (by omega)
  have hcb := cnt_le (l.take k) (l.getD k 0)
  rw [List.length_take] at hcb
  rw [← htk] at hcs
  generalize hc : l.getD k 0 = x at *
  simp (disch := first | omega | (simp only [Lx]; omega)) only [go_sem, simprocAttr, nats_len, nth_nats, hc, mid_drop, mid_len, cnts_get, mid_seg, Nat.mul_one]
  (repeat (first | refine gskip_of ?_ | refine gcskip_of ?_ | refine gopen_of ?_) <;> simp (disch := first | omega | (simp only [Lx]; omega)) only [go_sem, simprocAttr])
  rw [hcs]
  exact hR1 (k + 1) _ (by omega) (by omega) (.le (by simp (disch := first | omega | (simp only [Lx]; omega)) only [go_sem, simprocAttr]))
 ·obtain rfl : k = l.length := by omega
  simp (disch := first | omega | (simp only [Lx]; omega)) only [go_sem, simprocAttr, nats_len]
  have hcl := cnts_len l
  refine vcW_loop hN (fun m : Nat => ⟨[(0, .ro 1 (nats l)), (4, .vptr 49018 0), (7, .int .i64 (roomL l m)), (8, .int .i64 (preL l (m + 1) : Nat)), (9, .int .i64 ((m : Int) + 1))],
   [(49018, .var (.sl 49016 0 l.length :: (cntsA l ++ [.sl 49082 0 (sortL l m).length]))), (49016, .arr 1 (nats l)), (49082, .arr 1 (nats (sortL l m)))]⟩) (fun m => m ≤ 15 ∧ 0 ≤ roomL l m) (fun m => 15 - m) 0
   (.nilV 49018 17 49082 1 (.sl 49016 0 l.length :: (cntsA l ++ [.nilsl])) rfl (end_get hcl) rfl (.le (by simp (disch := first | omega | (simp only [Lx]; omega)) only [go_sem, simprocAttr, List.map_append, cnts_kill, end_set, sortL, nats_nil, roomL, preL]))) ⟨by omega, by show (0 : Int) ≤ 1; decide⟩ ?_
  rintro m R2 ⟨hm, hr⟩ hR2
  by_cases hlt : m < 15
  ·have hst := room_step l m
   have hrl := room_le l hm
   have hcb := cnt_le l (m + 1)
   have hpb := pre_le l (m + 1)
   have hpb2 : l.length * (m + 1) ≤ 320 * 16 := Nat.mul_le_mul hn (by omega)
   have hsl := sort_len l m
   simp (disch := first | omega | (simp only [Lx]; omega)) only [go_sem, simprocAttr, nats_len, mid_drop, mid_len, cnts_get, Nat.mul_one]
   rw [← hst]
   refine ifW_dec (fun hneg => ?_) (fun hneg => ?_)
   ·have hbad := room_neg l (by omega) (by omega) hneg
    have hck : chkL l = false := by unfold chkL; rw [decide_eq_false (by omega)]; rfl
    simp (disch := first | omega | (simp only [Lx]; omega)) only [go_sem, simprocAttr, hck]
    exact hR.ro ⟨rfl, by rw [hck]; rfl⟩
   ·simp (disch := first | omega | (simp only [Lx]; omega)) only [go_sem, simprocAttr, nats_len]
    refine vcW_loop hN (fun k : Nat => ⟨[(0, .ro 1 (nats l)), (4, .vptr 49018 0), (7, .int .i64 (roomL l (m + 1))), (8, .int .i64 (preL l (m + 2) : Nat)), (9, .int .i64 ((m : Int) + 1)), (65, .ro 1 (nats l)), (66, .int .i64 l.length), (67, .int .i64 k)],
     [(49018, .var (.sl 49016 0 l.length :: (cntsA l ++ [.sl 49082 0 (sortL l m ++ symsTo l (m + 1) k).length]))), (49016, .arr 1 (nats l)), (49082, .arr 1 (nats (sortL l m ++ symsTo l (m + 1) k)))]⟩) (fun k => k ≤ l.length) (fun k => l.length - k) 0
     (.le (by simp (disch := first | omega | (simp only [Lx]; omega)) only [go_sem, simprocAttr, symsTo, List.range_zero, List.filter_nil, List.append_nil, preL])) (by omega) ?_
    rintro k R3 hk hR3
    by_cases hlt3 : k < l.length
    ·have htl := symsTo_len l (m + 1) k
     have hsu := symsTo_succ l (m + 1) k
     by_cases hx : l.getD k 0 = m + 1
     ·rw [if_pos hx] at hsu
      simp (disch := first | omega | (simp only [Lx]; omega)) only [go_sem, simprocAttr, nats_len, nth_nats, hx, end_drop, nats_cells, nats_sub, List.map_append, cnts_kill, end_seg]
      refine hR3 (k + 1) _ (by omega) (by omega) (.le ?_)
      rw [hsu, ← List.append_assoc, ← nats_app]
      simp (disch := first | omega | (simp only [Lx]; omega)) only [go_sem, simprocAttr, nats_len]
     ·rw [if_neg hx, List.append_nil] at hsu
      simp (disch := first | omega | (simp only [Lx]; omega)) only [go_sem, simprocAttr, nats_len, nth_nats, end_drop, nats_cells, nats_sub]
      exact hR3 (k + 1) _ (by omega) (by omega) (.le (by rw [hsu]; simp (disch := first | omega | (simp only [Lx]; omega)) only [go_sem, simprocAttr]))
    ·obtain rfl : k = l.length := by omega
     simp (disch := first | omega | (simp only [Lx]; omega)) only [go_sem, simprocAttr, nats_len]
     refine hR2 (m + 1) _ (by omega) ⟨by omega, by omega⟩ (.le ?_)
     rw [symsTo_all]
     simp (disch := first | omega | (simp only [Lx]; omega)) only [go_sem, simprocAttr, sortL]
  ·obtain rfl : m = 15 := by omega
   have hre := room_end l
   have hpn := pre_num l hl
   have hsl := sort_len l 15
   have yes : chkL l = true → R [(49018, .var (.sl 49016 0 l.length :: (cntsA l ++ [.sl 49082 0 (sortL l 15).length]))), (49016, .arr 1 (nats l)), (49082, .arr 1 (nats (sortL l 15)))] (.tup [.vptr 49018 0, .int .i64 0]) [.undef] := by
    intro hck
    rw [hck] at hR
    refine hR.wk (h' := []) (r' := .tup [tblA l, .int .i64 0]) (ar' := [.undef]) rfl (.frz 49016 (.frz 49082 (.frzT 0 0 49018 [.vptr 49018 0, .int .i64 0] (tblC l) (by simp (disch := first | omega | (simp only [Lx]; omega)) only [go_sem, simprocAttr]) (by rfl) ?_ ?_ (.le ?_)))) ⟨rfl, by rfl⟩
    ·simp (disch := first | omega | (simp only [Lx]; omega)) only [go_sem, simprocAttr, List.map_append, cnts_frz, nats_sub, nats_len, take_all, tblC]
    ·simp [tblC, noRefC, cnts_ref]
    ·simp (disch := first | omega | (simp only [Lx]; omega)) only [go_sem, simprocAttr, tblA]
   have no : chkL l = false → ∀ h, R h (.tup [.lit (.pointer none), .int .i64 4]) [.undef] := by
    intro hck h
    rw [hck] at hR
    exact hR.ro ⟨rfl, rfl⟩
   have hp16 : preL l (15 + 1) = numL l := hpn
   have hone : ∀ x, ((cntsA l ++ [x]).drop 1).getD 0 .undef = .int .i64 (cntL l 1 : Nat) := fun x => by
    have := mid_drop (a := .undef) (b := x) (xs := cntsA l) (i := 1) (by omega)
    rw [cnts_get l (by omega)] at this
    exact this
   have honl : ∀ x, 0 < ((cntsA l ++ [x]).drop 1).length := fun x => by simp; omega
   by_cases ha : 0 < roomL l 15
   ·by_cases hb : numL l = 0
    ·have hck : chkL l = true := by unfold chkL; rw [decide_eq_true (show totL l ≤ 32768 by omega), decide_eq_true hb]; simp
     simp (disch := first | omega | (simp only [Lx]; omega)) only [go_sem, simprocAttr, hp16, hb]
     (repeat (first | refine gskip_of ?_ | refine gcskip_of ?_ | refine gopen_of ?_) <;> simp (disch := first | omega | (simp only [Lx]; omega)) only [go_sem, simprocAttr])
     exact yes hck
    ·by_cases hc : numL l = 1
     ·by_cases hd : cntL l 1 = 1
      ·have hck : chkL l = true := by unfold chkL; rw [decide_eq_true (show totL l ≤ 32768 by omega), decide_eq_true hc, decide_eq_true hd]; simp
       simp (disch := first | omega | (simp only [Lx]; omega)) only [go_sem, simprocAttr, hp16, hc, hone, honl, hd]
       (repeat (first | refine gskip_of ?_ | refine gcskip_of ?_ | refine gopen_of ?_) <;> simp (disch := first | omega | (simp only [Lx]; omega)) only [go_sem, simprocAttr, hone, honl, hd])
       exact yes hck
      ·have hck : chkL l = false := by unfold chkL; rw [decide_eq_false (show ¬ totL l = 32768 by omega), decide_eq_false hb, decide_eq_false hd]; simp
       simp (disch := first | omega | (simp only [Lx]; omega)) only [go_sem, simprocAttr, hp16, hc, hone, honl]
       (repeat (first | refine gskip_of ?_ | refine gcskip_of ?_ | refine gopen_of ?_) <;> simp (disch := first | omega | (simp only [Lx]; omega)) only [go_sem, simprocAttr, hone, honl])
       exact no hck _
     ·have hck : chkL l = false := by unfold chkL; rw [decide_eq_false (show ¬ totL l = 32768 by omega), decide_eq_false hb, decide_eq_false hc]; simp
      simp (disch := first | omega | (simp only [Lx]; omega)) only [go_sem, simprocAttr, hp16]
      (repeat (first | refine gskip_of ?_ | refine gcskip_of ?_ | refine gopen_of ?_) <;> simp (disch := first | omega | (simp only [Lx]; omega)) only [go_sem, simprocAttr])
      exact no hck _
   ·have hck : chkL l = true := by unfold chkL; rw [decide_eq_true (show totL l ≤ 32768 by omega), decide_eq_true (show totL l = 32768 by omega)]; simp
    simp (disch := first | omega | (simp only [Lx]; omega)) only [go_sem, simprocAttr, hp16]
    (repeat (first | refine gskip_of ?_ | refine gcskip_of ?_ | refine gopen_of ?_) <;> simp (disch := first | omega | (simp only [Lx]; omega)) only [go_sem, simprocAttr])
    exact yes hck
theorem read_none {l : List Nat} (h : numL l = 0) (b : List Bool) : readL (codesL l) b = (0, 0, 3) := by
 have h0 : ∀ s, s < l.length → l.getD s 0 = 0 := by
  intro s hs
  refine Nat.eq_zero_of_not_pos fun hp => ?_
  unfold numL at h
  have := List.countP_eq_zero.1 h (l.getD s 0) (by rw [List.getD_eq_getElem?_getD, List.getElem?_eq_getElem hs]; exact List.getElem_mem hs)
  simp [-List.getD_eq_getElem?_getD] at this
  omega
 unfold readL
 rw [findIdx_none (fun s hs => hit_len (h0 s hs))]
 simp only
 rw [if_pos]
 rw [List.all_eq_true]
 intro c hc
 obtain ⟨s, hs, rfl⟩ := List.mem_map.1 hc
 unfold codeL
 rw [if_pos (h0 s (List.mem_range.1 hs))]; rfl
theorem or_bit {c b : Nat} (hc : c < 32768) (hb : b ≤ 1) : bits .or .i64 (IntKind.i64.wrap ((c : Int) * 2 ^ min 1 64)) (b : Int) = ((2 * c + b : Nat) : Int) := by
 rw [show ((c : Int) * 2 ^ min 1 64) = ((c * 2 : Nat) : Int) by push_cast; rfl, wrap_id (by omega)]
 show IntKind.i64.wrap ((BitVec.ofInt 64 ((c * 2 : Nat) : Int) ||| BitVec.ofInt 64 (b : Int)).toNat : Int) = _
 rw [BitVec.ofInt_natCast, BitVec.ofInt_natCast, BitVec.toNat_or, BitVec.toNat_ofNat, BitVec.toNat_ofNat, Nat.mod_eq_of_lt (by omega), Nat.mod_eq_of_lt (by omega)]
 have h1 : c * 2 ||| b = 2 * c + b := by
  have := Nat.shiftLeft_add_eq_or_of_lt (b := b) (i := 1) (by omega) c
  rw [Nat.shiftLeft_eq] at this
  rw [show c * 2 = c * 2 ^ 1 by rfl, ← this]
  omega
 rw [h1]
 exact wrap_id (by omega)
theorem tbl_sub (l : List Nat) : ((tblC l).drop 1).take 16 = cntsA l := by
 unfold tblC
 rw [List.drop_succ_cons, List.drop_zero, List.take_left' (cnts_len l)]
theorem tbl_srt (l : List Nat) : (tblC l).getD 17 .undef = .ro 1 (nats (sortL l 15)) := by
 unfold tblC
 rw [List.getD_cons_succ, List.getD_eq_getElem?_getD, List.getElem?_append_right (by rw [cnts_len]; omega), cnts_len]; rfl
theorem tbl_len (l : List Nat) : (tblC l).length = 18 := by simp [tblC, cnts_len]
set_option maxHeartbeats 1000000 in
theorem hread_ok (l : List Nat) (hl : ∀ n ∈ l, n ≤ 15) (hll : l.length ≤ 320) (hck : chkL l = true) (s : Bs) (a hv fr p : Nat) (hs : s.length ≤ 1000000000000) (h : RdOK s a hv p) : Eng.Spec Tryz.prog 106 [(RD, .var (rdA s a hv fr))] [tblA l, .vptr RD 0]
    (fun h' v ar => ∃ a' hv' p' k, RdOK s a' hv' p' ∧ h' = [(RD, .var (rdA s a' hv' fr))] ∧ v = .tup [.int .i64 (k : Nat), .int .i64 ((readL (codesL l) (restB s p)).2.2 : Nat)] ∧
     ((readL (codesL l) (restB s p)).2.2 = 0 → k = (readL (codesL l) (restB s p)).1 ∧ p' = p + (readL (codesL l) (restB s p)).2.1) ∧ ar = [tblA l, .vptr RD 0]) := by
 have hc : totL l ≤ 32768 := by unfold chkL at hck; simp at hck; exact hck.1
 refine Cod.hread_spec (fun E R hN hR => ?_)
 have hsl := sort_len l 15
 have hpn := pre_num l hl
 have hp16 : preL l (15 + 1) = numL l := hpn
 have htl := tbl_len l
 have hnum : numL l ≤ l.length := List.countP_le_length
 have hts := tbl_srt l
 have hnl := nats_len (sortL l 15)
 have hso : ∃ so, sortL l 15 = so := ⟨_, rfl⟩
 obtain ⟨so, hso⟩ := hso
 rw [hso] at hsl hts hnl
 by_cases h0 : numL l = 0
 ·have hr := read_none h0 (restB s p)
  rw [hr] at hR
  simp (disch := omega) only [go_sem, simprocAttr, tblA, htl, hts, hnl, hsl, hp16, h0]
  exact hR.le (by simp (disch := omega) only [go_sem, simprocAttr]) ⟨a, hv, p, 0, h, rfl, rfl, fun e => by simp at e, rfl⟩
 ·simp (disch := omega) only [go_sem, simprocAttr, tblA, htl, hts, hnl, hsl, hp16, h0]
  have hbl := rest_len s p
  generalize hb : restB s p = b at *
  refine vcW_loop hN (fun q : Nat × Nat × Nat => ⟨[(0, .elt (.agg (tblC l))), (1, .vptr 40014 0), (6, .int .i64 (msb (b.take q.1) : Nat)), (7, .int .i64 (fstL l (q.1 + 1) : Nat)), (8, .int .i64 (preL l (q.1 + 1) : Nat)), (9, .int .i64 ((q.1 : Int) + 1)),
   (2000000, .elt (.agg (tblC l))), (2000001, .vptr 40014 0)], [(40014, .var (rdA s q.2.1 q.2.2 fr))]⟩)
   (fun q => q.1 < 15 ∧ RdOK s q.2.1 q.2.2 (p + q.1) ∧ q.1 ≤ leftB s p ∧ NoHit l b (q.1 + 1) ∧ fstL l (q.1 + 1) ≤ 2 * msb (b.take q.1) ∧ preL l (q.1 + 1) < numL l) (fun q => 15 - q.1) (0, a, hv)
   (.le (by simp (disch := omega) only [go_sem, simprocAttr, msb, List.foldl_nil, fstL, preL])) ⟨by omega, h, by omega, fun s _ h1 h2 => by omega, by simp [fstL], by simp only [preL]; omega⟩ ?_
  rintro ⟨n, a, hv⟩ R1 ⟨hn, hrd, hlb, hno, hj, hpre⟩ hR1
  simp only at hn hrd hlb hno hj hpre
  have hmt := msb_lt (b.take n)
  have hmt2 : 2 ^ (b.take n).length ≤ 2 ^ 15 := Nat.pow_le_pow_right (by decide) (by rw [List.length_take]; omega)
  have hkr := kraft hc (n := n + 1) (by omega) (by omega)
  have hk2 : 2 ^ (n + 1) ≤ 2 ^ 15 := Nat.pow_le_pow_right (by decide) (by omega)
  simp (disch := omega) only [go_sem, simprocAttr, tblA]
  refine call_win [(RD, .var (rdA s a hv fr))] (rbits_ok s a hv fr (p + n) 1 hs hrd (by omega)) (by simp (disch := omega) only [go_sem, simprocAttr]) nofun ?_
  rintro h' v ar ⟨a', hv', hrd', rfl, rfl, rfl⟩
  refine ⟨by simp (disch := omega) only [go_sem, simprocAttr, rdA], rfl, ?_⟩
  unfold leftB at hlb
  by_cases hbit : 1 ≤ leftB s (p + n)
  ·rw [if_pos hbit] at hrd'
   have hbit2 := hbit
   unfold leftB at hbit2
   have hbn : n < b.length := by omega
   have hget : b.getD n false = bitB s (p + n) := by rw [← hb]; exact rest_get s p (by omega)
   have hms := msb_take b n hbn
   rw [hget, ← num_one] at hms
   have hx1 := num_lt s (p + n) 1
   have hle := lvl_le hbn hj
   have hob := or_bit (c := msb (b.take n)) (b := numAt s (p + n) 1) (by omega) (by omega)
   rw [← hms] at hob
   have hcl := cnts_len l
   have hpb := pre_le l (n + 1)
   have hpm := pre_mono l (n + 2) (16 - (n + 2))
   rw [show n + 2 + (16 - (n + 2)) = 16 by omega, hpn] at hpm
   have hps : preL l (n + 2) = preL l (n + 1) + cntL l (n + 1) := rfl
   have hfs : fstL l (n + 2) = 2 * (fstL l (n + 1) + cntL l (n + 1)) := rfl
   simp (disch := omega) only [go_sem, simprocAttr, hbit, hob, tbl_sub, htl, hcl, cnts_get]
   refine ifW_dec (fun hk => ?_) (fun hk => ?_)
   ·obtain ⟨k, hke⟩ : ∃ k, msb (b.take (n + 1)) = fstL l (n + 1) + k := ⟨msb (b.take (n + 1)) - fstL l (n + 1), by omega⟩
    obtain ⟨sy, g1, g2, g3⟩ := lvl_yes hc hl hn hbn hno hj hke (by omega)
    rw [hso] at g1
    rw [g3] at hR
    have ei : ((preL l (n + 1) : Nat) : Int) + (((msb (b.take (n + 1)) : Nat) : Int) - ((fstL l (n + 1) : Nat) : Int)) = ((preL l (n + 1) + k : Nat) : Int) := by omega
    simp (disch := omega) only [go_sem, simprocAttr, hts, htl, hnl, hsl, hp16, ei, nth_nats, g1]
    exact hR.le (by simp (disch := omega) only [go_sem, simprocAttr, tblA]) ⟨a', hv', p + n + 1, sy, hrd', rfl, rfl, fun _ => ⟨rfl, by show _ = p + (n + 1); omega⟩, rfl⟩
   ·obtain ⟨g1, g2⟩ := lvl_no hc hl hn hbn hno (by omega)
    have hw2 : (((fstL l (n + 1) : Nat) : Int) + ((cntL l (n + 1) : Nat) : Int)) * 2 ^ min 1 64 = ((fstL l (n + 2) : Nat) : Int) := by
     rw [hfs, show (2 : Int) ^ min 1 64 = 2 by decide]; push_cast; omega
    have ha2 : ((preL l (n + 1) : Nat) : Int) + ((cntL l (n + 1) : Nat) : Int) = ((preL l (n + 2) : Nat) : Int) := by rw [hps]; push_cast; rfl
    by_cases hend : preL l (n + 2) = numL l
    ·have hr := lvl_text (b := b) hl (n := n + 1) (by omega) (by omega) hend (by omega) g1
     rw [hr] at hR
     simp (disch := omega) only [go_sem, simprocAttr, tbl_sub, hts, htl, hcl, cnts_get, hw2, ha2, hnl, hsl, hp16, hend]
     exact hR.le (by simp (disch := omega) only [go_sem, simprocAttr, tblA]) ⟨a', hv', p + n + 1, 0, hrd', rfl, rfl, fun e => by simp at e, rfl⟩
    ·have hne : ¬ ((preL l (n + 2) : Nat) : Int) = ((numL l : Nat) : Int) := by omega
     have hn15 : n + 1 < 15 := by
      refine Nat.lt_of_not_le fun hh => ?_
      have : n = 14 := by omega
      subst this
      exact hend hpn
     simp (disch := omega) only [go_sem, simprocAttr, tbl_sub, hts, htl, hcl, cnts_get, hw2, ha2, hnl, hsl, hp16, hne]
     exact hR1 (n + 1, a', hv') _ (by simp only; omega) ⟨hn15, hrd', by simp only [leftB]; omega, g1, g2, by show preL l (n + 2) < _; omega⟩ (.le (by simp (disch := omega) only [go_sem, simprocAttr]))
  ·have hbn : b.length = n := by unfold leftB at hbit; omega
   rw [if_neg hbit] at hrd'
   have hr := lvl_end (b := b) hl hck (by omega) (by rw [hbn]; exact hpre) (by rw [hbn]; exact hno) (by rw [List.take_of_length_le (by omega)] at hj; rw [hbn]; exact hj)
   rw [hr] at hR
   simp (disch := omega) only [go_sem, simprocAttr, hbit]
   exact hR.le (by simp (disch := omega) only [go_sem, simprocAttr]) ⟨a', hv', p + n, 0, hrd', rfl, rfl, fun e => by simp at e, rfl⟩
end Go.Proofs.YtjoefngnjoofeaaGreatDoor.Pk
namespace Go.Proofs.YtjoefngnjoofeaaGreatDoor.Pk
open Eng
set_option maxRecDepth 10000
def bools (xs : List Bool) : List AV := xs.map AV.bool
theorem bools_len (xs : List Bool) : (bools xs).length = xs.length := by simp [bools]
theorem nth_bools {xs : List Bool} {i : Nat} (h : i < xs.length) : nth (bools xs) i = .bool (xs.getD i false) := by
 simp [nth, bools, List.getD_eq_getElem?_getD, h]
theorem bools_cells {xs : List Bool} : (bools xs).all cellsOK = true := by simp [bools, cellsOK, cellsOf, isCell]
theorem bools_app {xs : List Bool} {c : Bool} : bools xs ++ [.bool c] = bools (xs ++ [c]) := by simp [bools]
theorem bools_cons {xs : List Bool} {c : Bool} : .bool c :: bools xs = bools (c :: xs) := by simp [bools]
theorem bools_sub {xs : List Bool} {o n : Nat} : sub3 (bools xs) o n = bools ((xs.drop o).take n) := by simp [bools, sub3]
theorem bools_nil : bools [] = [] := (rfl)
def bitsT (s : Bs) (n : Nat) : List Bool := (List.range n).map (bitB s)
theorem bitsT_len (s : Bs) (n : Nat) : (bitsT s n).length = n := by simp [bitsT]
theorem bitsT_succ (s : Bs) (n : Nat) : bitsT s (n + 1) = bitsT s n ++ [bitB s n] := by simp [bitsT, List.range_succ]
theorem bitsT_rest (s : Bs) : bitsT s (8 * s.length) = restB s 0 := by simp [bitsT, restB]
theorem bit_and (c : UInt8) (k : Nat) (hk : k < 8) : decide (bits .and .u8 ((c.toNat : Int).fdiv (2 ^ min k 64)) 1 = 1) = c.toNat.testBit k := by
 have hc := c.toNat_lt
 have e1 : (c.toNat : Int).fdiv (2 ^ min k 64) = ((c.toNat / 2 ^ k : Nat) : Int) := by
  rw [Nat.min_eq_left (by omega), Int.fdiv_eq_ediv_of_nonneg _ (Int.pow_nonneg (by decide)), Int.natCast_ediv, Int.natCast_pow]; rfl
 have hd : c.toNat / 2 ^ k < 256 := Nat.lt_of_le_of_lt (Nat.div_le_self _ _) (by omega)
 have e2 : bits .and .u8 ((c.toNat / 2 ^ k : Nat) : Int) 1 = ((c.toNat / 2 ^ k % 2 : Nat) : Int) := by
  show IntKind.u8.wrap ((BitVec.ofInt 8 ((c.toNat / 2 ^ k : Nat) : Int) &&& BitVec.ofInt 8 1).toNat : Int) = _
  rw [BitVec.ofInt_natCast, BitVec.toNat_and, BitVec.toNat_ofNat, Nat.mod_eq_of_lt (by omega), show (BitVec.ofInt 8 1).toNat = 2 ^ 1 - 1 by decide, Nat.and_two_pow_sub_one_eq_mod]
  exact wrap_u8 (by omega)
 rw [e1, e2, Nat.testBit_eq_decide_div_mod_eq]
 exact decide_eq_decide.2 (by omega)
theorem bit_and1 (c : UInt8) (k : Nat) (hk : k < 8) : (decide (bits .and .u8 ((c.toNat : Int).fdiv (2 ^ min k 8)) 1 = 1)) = c.toNat.testBit k := by
 have := bit_and c k hk
 rw [Nat.min_eq_left (by omega)] at this ⊢
 exact this
theorem r3bits_ok (s : Bs) (hs : s.length ≤ 1000000) : SpecR Tryz.prog 81 [.str s] (.ro 1 (bools (restB s 0))) := by
 refine Cod.r3bits_spec (fun E R hN hR => ?_)
 simp (disch := omega) only [go_sem, simprocAttr]
 refine vcW_loop hN (fun k : Nat => ⟨[(0, .str s), (3, .sl 51006 0 (8 * k)), (4, .int .i64 k)], [(51006, .arr 1 (bools (bitsT s (8 * k))))]⟩) (fun k => k ≤ s.length) (fun k => s.length - k) 0 (.le (by simp (disch := omega) only [go_sem, simprocAttr, bitsT, List.range_zero, bools_nil])) (by omega) ?_
 rintro k R1 hk hR1
 by_cases hlt : k < s.length
 ·simp (disch := omega) only [go_sem, simprocAttr]
  refine vcW_loop hN (fun j : Nat => ⟨[(0, .str s), (3, .sl 51006 0 (8 * k + j)), (4, .int .i64 k), (5, .int .i64 j)], [(51006, .arr 1 (bools (bitsT s (8 * k + j))))]⟩) (fun j => j ≤ 8) (fun j => 8 - j) 0 (.le (by simp (disch := omega) only [go_sem, simprocAttr])) (by omega) ?_
  rintro j R2 hj hR2
  have hbl := bitsT_len s (8 * k + j)
  have hbl2 := bools_len (bitsT s (8 * k + j))
  by_cases hj8 : j < 8
  ·have hb := bit_and1 (s.getD k 0) j hj8
   have hbt : bitB s (8 * k + j) = (s.getD k 0).toNat.testBit j := by unfold bitB; rw [show (8 * k + j) / 8 = k by omega, show (8 * k + j) % 8 = j by omega]
   rw [← hbt] at hb
   simp (disch := omega) only [go_sem, simprocAttr, bools_sub, bools_cells, take_all, hb, bools_app]
   refine hR2 (j + 1) _ (by omega) (by omega) (.le ?_)
   rw [show 8 * k + (j + 1) = 8 * k + j + 1 by omega, bitsT_succ]
   simp (disch := omega) only [go_sem, simprocAttr]
  ·obtain rfl : j = 8 := by omega
   simp (disch := omega) only [go_sem, simprocAttr]
   exact hR1 (k + 1) _ (by omega) (by omega) (.le (by rw [show 8 * (k + 1) = 8 * k + 8 by omega]; simp (disch := omega) only [go_sem, simprocAttr]))
 ·obtain rfl : k = s.length := by omega
  have ht : (restB s 0).take (8 * s.length) = restB s 0 := List.take_of_length_le (by rw [rest_len]; omega)
  simp (disch := omega) only [go_sem, simprocAttr]
  exact hR.wk (h' := []) (r' := .ro 1 (bools (restB s 0))) (ar' := [.undef]) rfl (.frz 51006 (.le (by simp (disch := omega) only [go_sem, simprocAttr, bools_sub, bitsT_rest, ht]))) ⟨rfl, rfl⟩
def numB (b : List Bool) : Nat := b.foldr (fun c a => 2 * a + c.toNat) 0
theorem numB_lt (b : List Bool) : numB b < 2 ^ b.length := by
 induction b with
 | nil => simp [numB]
 | cons c b ih =>
  have h1 : numB (c :: b) = 2 * numB b + c.toNat := rfl
  have : c.toNat ≤ 1 := by cases c <;> decide
  rw [h1, List.length_cons, Nat.pow_succ]; omega
theorem numB_snoc (b : List Bool) (c : Bool) : numB (b ++ [c]) = numB b + if c then 2 ^ b.length else 0 := by
 induction b with
 | nil => cases c <;> rfl
 | cons d b ih =>
  have h1 : ∀ b, numB (d :: b) = 2 * numB b + d.toNat := fun _ => rfl
  rw [List.cons_append, h1, h1, ih, List.length_cons, Nat.pow_succ]
  split <;> omega
theorem numB_at (s : Bs) (p : Nat) : ∀ n, p + n ≤ 8 * s.length → numB ((restB s p).take n) = numAt s p n
 | 0, _ => rfl
 | n + 1, h => by
  have hl := rest_len s p
  rw [take_snoc (restB s p) false (by omega), numB_snoc, numB_at s p n (by omega), rest_get s p (by omega), List.length_take, hl, Nat.min_eq_left (by omega)]
  rfl
theorem r3number_ok (b : List Bool) (hb : b.length ≤ 31) : SpecR Tryz.prog 109 [.ro 1 (bools b)] (.int .u32 (numB b : Nat)) := by
 refine Cod.r3number_spec (fun E R hN hR => ?_)
 have hbl := bools_len b
 simp (disch := omega) only [go_sem, simprocAttr, hbl]
 refine vcW_loop hN (fun k : Nat => ⟨[(0, .ro 1 (bools b)), (3, .int .u32 (numB (b.drop k) : Nat)), (4, .int .i64 ((k : Int) - 1))], []⟩) (fun k => k ≤ b.length) (fun k => k) b.length (.le (by simp (disch := omega) only [go_sem, simprocAttr, drop_all, numB, List.foldr_nil])) (by omega) ?_
 rintro k R1 hk hR1
 cases k with
 | zero =>
  simp (disch := omega) only [go_sem, simprocAttr]
  exact hR.ro ⟨rfl, rfl⟩
 | succ k =>
  have hx := numB_lt (b.drop (k + 1))
  have hx2 : 2 ^ (b.drop (k + 1)).length ≤ 2 ^ 30 := Nat.pow_le_pow_right (by decide) (by rw [List.length_drop]; omega)
  have hd : numB (b.drop k) = 2 * numB (b.drop (k + 1)) + (b.getD k false).toNat := by rw [drop_consD false b (by omega)]; rfl
  have ek : (k : Int) + 1 - 1 = (k : Int) := by omega
  simp (disch := omega) only [go_sem, simprocAttr, ek, nth_bools, hbl]
  cases hc : b.getD k false with
  | false =>
   rw [hc] at hd
   simp (disch := omega) only [go_sem, simprocAttr]
   exact hR1 k _ (by omega) (by omega) (.le (by rw [hd]; simp (disch := omega) only [go_sem, simprocAttr]; push_cast; rfl))
  | true =>
   rw [hc] at hd
   simp (disch := omega) only [go_sem, simprocAttr]
   exact hR1 k _ (by omega) (by omega) (.le (by rw [hd]; simp (disch := omega) only [go_sem, simprocAttr]; push_cast; rfl))
theorem part_step (i : Nat) (h : i < 15) : (((32768 / 2 ^ i : Nat) : Int)).tdiv 2 = ((32768 / 2 ^ (i + 1) : Nat) : Int) := by
 rw [Nat.pow_succ, ← Nat.div_div_eq_div_mul]
 generalize 32768 / 2 ^ i = q
 rw [tdiv_pos (by omega)]; omega
theorem part_at (n : Nat) (h : n ≤ 15) : 32768 / 2 ^ n = 2 ^ (15 - n) := by
 have h1 : 32768 = 2 ^ (15 - n) * 2 ^ n := by rw [← Nat.pow_add, show 15 - n + n = 15 by omega]
 rw [h1, Nat.mul_div_cancel _ (Nat.pow_pos (by decide))]
theorem num_snoc (l : List Nat) (x : Nat) : numL (l ++ [x]) = numL l + if 0 < x then 1 else 0 := by
 simp only [numL, List.countP_append, List.countP_singleton, decide_eq_true_eq]
theorem tot_le (l : List Nat) : totL l ≤ 32768 * l.length := by
 refine snoc_ind (p := fun l => totL l ≤ 32768 * l.length) (by simp [totL, fstL, cntL]) (fun l x h => ?_) l
 rw [tot_snoc, List.length_append, List.length_singleton]
 have : (2 : Nat) ^ (15 - x) ≤ 2 ^ 15 := Nat.pow_le_pow_right (by decide) (by omega)
 split <;> omega
set_option maxHeartbeats 1000000 in
theorem r4check_ok (l : List Nat) (hl : ∀ n ∈ l, n ≤ 15) (hn : l.length ≤ 320) : SpecR Tryz.prog 114 [.ro 1 (nats l)] (.int .i64 (if chkL l then 0 else 4 : Nat)) := by
 refine Cod.r4check_spec (fun E R hN hR => ?_)
 have hnl := nats_len l
 simp (disch := omega) only [go_sem, simprocAttr, hnl]
 refine vcW_loop hN (fun k : Nat => ⟨[(3, .int .i64 (totL (l.take k) : Nat)), (4, .int .i64 (numL (l.take k) : Nat)), (5, .int .i64 (cntL (l.take k) 1 : Nat)), (13, .ro 1 (nats l)), (14, .int .i64 l.length), (15, .int .i64 k)], []⟩) (fun k => k ≤ l.length) (fun k => l.length - k) 0 (.le (by simp (disch := omega) only [go_sem, simprocAttr, totL, numL, cntL, fstL]; simp)) (by omega) ?_
 rintro k R1 hk hR1
 have ht := tot_le (l.take k)
 have hc1 := cnt_le (l.take k) 1
 have hnm : numL (l.take k) ≤ (l.take k).length := List.countP_le_length
 rw [List.length_take] at ht hc1 hnm
 have hmin : 32768 * min k l.length ≤ 32768 * 320 := Nat.mul_le_mul_left _ (by omega)
 by_cases hlt : k < l.length
 ·have hx := len15 hl k
  have htk := take_snoc l 0 hlt
  have hts := tot_snoc (l.take k) (l.getD k 0)
  have hns := num_snoc (l.take k) (l.getD k 0)
  have hcs := cnt_snoc (l.take k) (l.getD k 0) 1
  rw [← htk] at hts hns hcs
  generalize hc : l.getD k 0 = x at *
  have next : (∀ t c o : Nat, t = totL (l.take (k + 1)) → c = numL (l.take (k + 1)) → o = cntL (l.take (k + 1)) 1 → ∀ s, s = [(3, AV.int .i64 (t : Int)), (4, .int .i64 (c : Int)), (5, .int .i64 (o : Int)), (13, .ro 1 (nats l)), (14, .int .i64 l.length), (15, .int .i64 ((k : Int) + 1))] → R1.ap ⟨s, []⟩) := by
   rintro t c o rfl rfl rfl s rfl
   exact hR1 (k + 1) _ (by omega) (by omega) (.le (by simp (disch := omega) only [go_sem, simprocAttr]))
  by_cases h0 : 0 < x
  ·rw [if_pos ⟨by omega, hx⟩] at hts
   rw [if_pos h0] at hns
   simp (disch := omega) only [go_sem, simprocAttr, hnl, nth_nats, hc]
   (repeat (first | refine gskip_of ?_ | refine gcskip_of ?_ | refine gopen_of ?_) <;> simp (disch := omega) only [go_sem, simprocAttr])
   refine vcW_loop hN (fun i : Nat => ⟨[(3, .int .i64 (totL (l.take k) : Nat)), (4, .int .i64 ((numL (l.take k) : Nat) + 1)), (5, .int .i64 (cntL (l.take k) 1 : Nat)), (7, .int .i64 x), (8, .int .i64 (32768 / 2 ^ i : Nat)), (9, .int .i64 i), (13, .ro 1 (nats l)), (14, .int .i64 l.length), (15, .int .i64 k)], []⟩) (fun i => i ≤ x) (fun i => x - i) 0 (.le (by simp (disch := omega) only [go_sem, simprocAttr])) (by omega) ?_
   rintro i R2 hi hR2
   by_cases hix : i < x
   ·have hp := part_step i (by omega)
    have hpl : 32768 / 2 ^ i ≤ 32768 := Nat.div_le_self _ _
    have hpl2 : 32768 / 2 ^ (i + 1) ≤ 32768 := Nat.div_le_self _ _
    have hR3 := hR2 (i + 1)
    generalize 32768 / 2 ^ (i + 1) = q2 at *
    generalize 32768 / 2 ^ i = q at *
    simp (disch := omega) only [go_sem, simprocAttr, hp]
    exact hR3 _ (by omega) (by omega) (.le (by simp (disch := omega) only [go_sem, simprocAttr]))
   ·obtain rfl : i = x := by omega
    have hp := part_at i (by omega)
    have hp2 : (2 : Nat) ^ (15 - i) ≤ 2 ^ 15 := Nat.pow_le_pow_right (by decide) (by omega)
    rw [hp] at *
    generalize 2 ^ (15 - i) = q at *
    by_cases h1 : i = 1
    ·rw [if_pos h1] at hcs
     simp (disch := omega) only [go_sem, simprocAttr, h1]
     exact next (totL (l.take k) + q) (numL (l.take k) + 1) (cntL (l.take k) 1 + 1) (by omega) (by omega) (by omega) _ (by simp (disch := omega) only [go_sem, simprocAttr])
    ·rw [if_neg h1] at hcs
     simp (disch := omega) only [go_sem, simprocAttr]
     exact next (totL (l.take k) + q) (numL (l.take k) + 1) (cntL (l.take k) 1) (by omega) (by omega) (by omega) _ (by simp (disch := omega) only [go_sem, simprocAttr])
  ·rw [if_neg (by omega)] at hts
   rw [if_neg h0] at hns
   rw [if_neg (by omega)] at hcs
   simp (disch := omega) only [go_sem, simprocAttr, hnl, nth_nats, hc]
   (repeat (first | refine gskip_of ?_ | refine gcskip_of ?_ | refine gopen_of ?_) <;> simp (disch := omega) only [go_sem, simprocAttr])
   exact next (totL (l.take k)) (numL (l.take k)) (cntL (l.take k) 1) (by omega) (by omega) (by omega) _ rfl
 ·obtain rfl : k = l.length := by omega
  rw [List.take_of_length_le (Nat.le_refl _)] at ht hc1 hnm ⊢
  have go : ∀ b : Bool, chkL l = b → ∀ h, R h (.int .i64 (if b then 0 else 4 : Nat)) [.undef] := fun b hb h => hR.ro ⟨rfl, by rw [hb]⟩
  unfold chkL at go
  by_cases h1 : totL l ≤ 32768
  ·rw [decide_eq_true h1] at go
   by_cases h2 : totL l = 32768
   ·rw [decide_eq_true h2] at go
    simp (disch := omega) only [go_sem, simprocAttr, hnl]
    (repeat (first | refine gskip_of ?_ | refine gcskip_of ?_ | refine gopen_of ?_) <;> simp (disch := omega) only [go_sem, simprocAttr])
    exact go true (by simp) _
   ·rw [decide_eq_false h2] at go
    by_cases h3 : numL l = 0
    ·rw [decide_eq_true h3] at go
     simp (disch := omega) only [go_sem, simprocAttr, hnl, h3]
     (repeat (first | refine gskip_of ?_ | refine gcskip_of ?_ | refine gopen_of ?_) <;> simp (disch := omega) only [go_sem, simprocAttr])
     exact go true (by simp) _
    ·rw [decide_eq_false h3] at go
     by_cases h4 : numL l = 1
     ·rw [decide_eq_true h4] at go
      by_cases h5 : cntL l 1 = 1
      ·rw [decide_eq_true h5] at go
       simp (disch := omega) only [go_sem, simprocAttr, hnl, h4, h5]
       (repeat (first | refine gskip_of ?_ | refine gcskip_of ?_ | refine gopen_of ?_) <;> simp (disch := omega) only [go_sem, simprocAttr])
       exact go true (by simp) _
      ·rw [decide_eq_false h5] at go
       simp (disch := omega) only [go_sem, simprocAttr, hnl, h4]
       (repeat (first | refine gskip_of ?_ | refine gcskip_of ?_ | refine gopen_of ?_) <;> simp (disch := omega) only [go_sem, simprocAttr])
       exact go false (by simp) _
     ·rw [decide_eq_false h4] at go
      simp (disch := omega) only [go_sem, simprocAttr, hnl]
      (repeat (first | refine gskip_of ?_ | refine gcskip_of ?_ | refine gopen_of ?_) <;> simp (disch := omega) only [go_sem, simprocAttr])
      exact go false (by simp) _
  ·rw [decide_eq_false h1] at go
   simp (disch := omega) only [go_sem, simprocAttr, hnl]
   (repeat (first | refine gskip_of ?_ | refine gcskip_of ?_ | refine gopen_of ?_) <;> simp (disch := omega) only [go_sem, simprocAttr])
   exact go false (by simp) _
end Go.Proofs.YtjoefngnjoofeaaGreatDoor.Pk
namespace Go.Proofs.YtjoefngnjoofeaaGreatDoor.Pk
open Eng
set_option maxRecDepth 10000
def cA (c : List Bool) : AV :=
 match c with
 | [] => .nilsl
 | x :: r => .ro 1 (bools (x :: r))
theorem cA_pos {c : List Bool} (h : 0 < c.length) : cA c = .ro 1 (bools c) := by
 cases c with
 | nil => simp at h
 | cons x r => rfl
def codesA (cs : List (List Bool)) : List AV := cs.map cA
theorem codesA_len (cs : List (List Bool)) : (codesA cs).length = cs.length := by simp [codesA]
theorem nth_codes {cs : List (List Bool)} {i : Nat} (h : i < cs.length) : nth (codesA cs) i = cA (cs.getD i []) := by
 simp [nth, codesA, List.getD_eq_getElem?_getD, h]
theorem cA_cell (c : List Bool) : isCell (cA c) = true := by cases c <;> rfl
theorem cA_cells (c : List Bool) : cellsOf (cA c) = [cA c] := by cases c <;> rfl
theorem codesA_cells {cs : List (List Bool)} : (codesA cs).all cellsOK = true := by
 simp only [codesA, List.all_map, List.all_eq_true, Function.comp, cellsOK]
 intro c _
 rw [cA_cells]; simp [cA_cell]
theorem codesA_set {cs : List (List Bool)} {i : Nat} {c : List Bool} : (codesA cs).set i (cA c) = codesA (cs.set i c) := by simp [codesA, List.map_set]
def outL (l : List Nat) (n k : Nat) : List (List Bool) := (List.range l.length).map fun j => if l.getD j 0 ≠ 0 ∧ (l.getD j 0 < n ∨ (l.getD j 0 = n ∧ j < k)) then codeL l j else []
theorem outL_len (l : List Nat) (n k : Nat) : (outL l n k).length = l.length := by simp [outL]
theorem outL_zero (l : List Nat) : outL l 1 0 = List.replicate l.length [] := by
 unfold outL
 rw [List.map_congr_left (g := fun _ => []) (fun j _ => by rw [if_neg]; omega), List.map_const', List.length_range]
theorem outL_next (l : List Nat) (n : Nat) : outL l n l.length = outL l (n + 1) 0 := by
 unfold outL
 refine List.map_congr_left fun j hj => ?_
 have := List.mem_range.1 hj
 by_cases h : l.getD j 0 ≠ 0 ∧ (l.getD j 0 < n ∨ (l.getD j 0 = n ∧ j < l.length))
 ·rw [if_pos h, if_pos ⟨h.1, by omega⟩]
 ·rw [if_neg h, if_neg (by omega)]
theorem outL_end (l : List Nat) (hl : ∀ n ∈ l, n ≤ 15) : outL l 16 0 = codesL l := by
 unfold outL codesL
 refine List.map_congr_left fun j _ => ?_
 have := len15 hl j
 by_cases h : l.getD j 0 ≠ 0
 ·rw [if_pos ⟨h, .inl (by omega)⟩]
 ·rw [if_neg (fun g => h g.1)]
  unfold codeL
  rw [if_pos (by omega)]
theorem outL_skip (l : List Nat) (n k : Nat) (h : l.getD k 0 ≠ n) : outL l n (k + 1) = outL l n k := by
 unfold outL
 refine List.map_congr_left fun j _ => ?_
 by_cases hj : j = k
 ·subst hj
  by_cases h1 : l.getD j 0 ≠ 0 ∧ l.getD j 0 < n
  ·rw [if_pos ⟨h1.1, .inl h1.2⟩, if_pos ⟨h1.1, .inl h1.2⟩]
  ·rw [if_neg (by omega), if_neg (by omega)]
 ·by_cases h1 : l.getD j 0 ≠ 0 ∧ (l.getD j 0 < n ∨ (l.getD j 0 = n ∧ j < k))
  ·rw [if_pos h1, if_pos ⟨h1.1, by omega⟩]
  ·rw [if_neg h1, if_neg (by omega)]
theorem outL_set (l : List Nat) (n k : Nat) (hk : k < l.length) (h0 : n ≠ 0) (h : l.getD k 0 = n) : (outL l n k).set k (codeL l k) = outL l n (k + 1) := by
 apply List.ext_getElem?
 intro j
 rw [List.getElem?_set, outL_len]
 by_cases hj : k = j
 ·subst hj
  rw [if_pos rfl, if_pos hk]
  unfold outL
  rw [List.getElem?_map, List.getElem?_range hk]
  simp only [Option.map_some]
  rw [if_pos ⟨by omega, .inr ⟨h, by omega⟩⟩]
 ·rw [if_neg hj]
  by_cases hjl : j < l.length
  ·unfold outL
   rw [List.getElem?_map, List.getElem?_map, List.getElem?_range hjl]
   simp only [Option.map_some]
   by_cases h1 : l.getD j 0 ≠ 0 ∧ (l.getD j 0 < n ∨ (l.getD j 0 = n ∧ j < k))
   ·rw [if_pos h1, if_pos ⟨h1.1, by omega⟩]
   ·rw [if_neg h1, if_neg (by omega)]
  ·rw [List.getElem?_eq_none (by rw [outL_len]; omega), List.getElem?_eq_none (by rw [outL_len]; omega)]
def endC (l : List Nat) (m : Nat) : Nat := if m = 0 then 0 else fstL l m + cntL l m
theorem endC_two (l : List Nat) (m : Nat) : 2 * endC l m = fstL l (m + 1) := by
 unfold endC
 cases m with
 | zero => rfl
 | succ m => rw [if_neg (by omega)]; rfl
theorem bitsM_cons : ∀ (i x : Nat), bitsM x (i + 1) = (x / 2 ^ i % 2 == 1) :: bitsM x i
 | 0, x => by simp [bitsM]
 | i + 1, x => by
  show bitsM (x / 2) (i + 1) ++ [x % 2 == 1] = _
  rw [bitsM_cons i (x / 2)]
  have : x / 2 / 2 ^ i = x / 2 ^ (i + 1) := by rw [Nat.pow_succ, Nat.mul_comm, Nat.div_div_eq_div_mul]
  rw [this]; rfl
theorem fst_le0 (l : List Nat) : ∀ n, fstL l (n + 1) + cntL l (n + 1) + l.length ≤ l.length * 2 ^ (n + 1)
 | 0 => by have := cnt_le l 1; simp [fstL]; omega
 | n + 1 => by
  have h1 := fst_le0 l n
  have h2 := cnt_le l (n + 2)
  have h3 : cntL l (n + 1 + 1) = cntL l (n + 2) := rfl
  simp only [fstL]
  rw [Nat.pow_succ 2 (n + 1), ← Nat.mul_assoc]
  omega
theorem fst_le (l : List Nat) (hn : l.length ≤ 320) {n : Nat} (h1 : 1 ≤ n) (h : n ≤ 16) : fstL l n + cntL l n ≤ 20971520 := by
 obtain ⟨m, rfl⟩ : ∃ m, n = m + 1 := ⟨n - 1, by omega⟩
 have h2 := fst_le0 l m
 have h3 : l.length * 2 ^ (m + 1) ≤ 320 * 2 ^ 16 := Nat.mul_le_mul hn (Nat.pow_le_pow_right (by decide) h)
 omega
set_option maxHeartbeats 1000000 in
theorem r4codes_ok (l : List Nat) (hl : ∀ n ∈ l, n ≤ 15) (hn : l.length ≤ 320) : SpecR Tryz.prog 111 [.ro 1 (nats l)] (.ro 1 (codesA (codesL l))) := by
 refine Cod.r4codes_spec (fun E R hN hR => ?_)
 have hnl := nats_len l
 simp (disch := omega) only [go_sem, simprocAttr, hnl]
 refine vcW_loop hN (fun k : Nat => ⟨[(0, .ro 1 (nats l)), (3, .sl 55011 0 k), (13, .int .i64 l.length), (14, .int .i64 k)], [(55011, .arr 1 (List.replicate k .nilsl))]⟩) (fun k => k ≤ l.length) (fun k => l.length - k) 0 (.le (by simp (disch := omega) only [go_sem, simprocAttr, List.replicate_zero])) (by omega) ?_
 rintro k R1 hk hR1
 by_cases hlt : k < l.length
 ·have hrc : (List.replicate k AV.nilsl).all cellsOK = true := by rw [List.all_replicate]; split <;> rfl
  have hrl : (List.replicate k AV.nilsl).length = k := List.length_replicate
  have hrs : sub3 (List.replicate k AV.nilsl) 0 k = List.replicate k AV.nilsl := by simp [sub3]
  simp (disch := omega) only [go_sem, simprocAttr, hnl, hrc, hrl, hrs]
  exact hR1 (k + 1) _ (by omega) (by omega) (.le (by rw [List.replicate_succ']; simp (disch := omega) only [go_sem, simprocAttr]))
 ·obtain rfl : k = l.length := by omega
  simp (disch := omega) only [go_sem, simprocAttr, hnl]
  have hz : List.replicate l.length AV.nilsl = codesA (outL l 1 0) := by rw [outL_zero]; simp [codesA, cA]
  refine vcW_loop hN (fun m : Nat => ⟨[(0, .ro 1 (nats l)), (3, .sl 55011 0 l.length), (4, .int .i64 (endC l m : Nat)), (5, .int .i64 ((m : Int) + 1))], [(55011, .arr 1 (codesA (outL l (m + 1) 0)))]⟩) (fun m => m ≤ 15) (fun m => 15 - m) 0 (.le (by rw [hz, show endC l 0 = 0 from rfl]; simp (disch := omega) only [go_sem, simprocAttr])) (by omega) ?_
  rintro m R2 hm hR2
  by_cases hlt2 : m < 15
  ·have he2 := endC_two l m
   have hfl := fst_le l hn (n := m + 1) (by omega) (by omega)
   have he3 : 2 * ((endC l m : Nat) : Int) = ((fstL l (m + 1) : Nat) : Int) := by omega
   have hle : endC l m ≤ 20971520 := by omega
   simp (disch := omega) only [go_sem, simprocAttr, hnl, he3]
   refine vcW_loop hN (fun k : Nat => ⟨[(0, .ro 1 (nats l)), (3, .sl 55011 0 l.length), (4, .int .i64 (fstL l (m + 1) + cntL (l.take k) (m + 1) : Nat)), (5, .int .i64 ((m : Int) + 1)), (26, .ro 1 (nats l)), (27, .int .i64 l.length), (28, .int .i64 k)], [(55011, .arr 1 (codesA (outL l (m + 1) k)))]⟩) (fun k => k ≤ l.length) (fun k => l.length - k) 0 (.le (by simp (disch := omega) only [go_sem, simprocAttr, cntL, List.countP_nil])) (by omega) ?_
   rintro k R3 hk hR3
   have hcl := cnt_take_le l k (m + 1)
   by_cases hlt3 : k < l.length
   ·have hcs := cnt_snoc (l.take k) (l.getD k 0) (m + 1)
    rw [← take_snoc l 0 hlt3] at hcs
    by_cases hx : l.getD k 0 = m + 1
    ·rw [if_pos hx] at hcs
     have hcw : cwL l k = fstL l (m + 1) + cntL (l.take k) (m + 1) := by unfold cwL rkL; rw [hx]
     have hset := outL_set l (m + 1) k hlt3 (by omega) hx
     have hcd : codeL l k = bitsM (cwL l k) (m + 1) := by unfold codeL; rw [if_neg (by omega), hx]
     have hol := outL_len l (m + 1) k
     have hoc := codesA_len (outL l (m + 1) k)
     generalize hw : fstL l (m + 1) + cntL (l.take k) (m + 1) = cw at *
     have hcwl : cw ≤ 20971520 := by omega
     simp (disch := omega) only [go_sem, simprocAttr, hnl, nth_nats, hx]
     refine vcW_loop hN (fun i : Nat => ⟨[(0, .ro 1 (nats l)), (3, .sl 55011 0 l.length), (4, .int .i64 cw), (5, .int .i64 ((m : Int) + 1)), (6, .int .i64 k), (8, .sl 55036 0 i), (9, .int .i64 (cw / 2 ^ i : Nat)), (10, .int .i64 i), (26, .ro 1 (nats l)), (27, .int .i64 l.length), (28, .int .i64 k)],
      [(55011, .arr 1 (codesA (outL l (m + 1) k))), (55036, .arr 1 (bools (bitsM cw i)))]⟩) (fun i => i ≤ m + 1) (fun i => m + 1 - i) 0 (.le (by simp (disch := omega) only [go_sem, simprocAttr, bitsM, bools_nil])) (by omega) ?_
     rintro i R4 hi hR4
     have hbl := bitsM_len i cw
     have hbl2 := bools_len (bitsM cw i)
     by_cases hi2 : i < m + 1
     ·have hbc := bitsM_cons i cw
      have hR5 := hR4 (i + 1)
      have hq2 : cw / 2 ^ (i + 1) = cw / 2 ^ i / 2 := by rw [Nat.pow_succ, Nat.div_div_eq_div_mul]
      rw [hq2] at hR5
      have hql : cw / 2 ^ i ≤ cw := Nat.div_le_self _ _
      generalize cw / 2 ^ i = q at *
      have e1 : ((q : Nat) : Int).tdiv 2 = ((q / 2 : Nat) : Int) := by rw [tdiv_pos (by omega)]; omega
      have e2 : decide ((q : Int) % 2 = 1) = (q % 2 == 1) := by
       rw [show (q % 2 == 1) = decide (q % 2 = 1) by rfl]
       exact decide_eq_decide.2 (by omega)
      simp (disch := omega) only [go_sem, simprocAttr, e1, e2, bools_sub, take_all, bools_cells]
      refine hR5 _ (by omega) (by omega) (.drop 55036 (.ren 55046 55036 rfl (by simp (disch := omega) only [go_sem, simprocAttr]) (.le ?_)))
      rw [hbc]
      simp (disch := omega) only [go_sem, simprocAttr]
      rw [bools_cons]
     ·obtain rfl : i = m + 1 := by omega
      have hcp := cA_pos (c := bitsM cw (m + 1)) (by omega)
      rw [hcd, hcw] at hset
      simp (disch := omega) only [go_sem, simprocAttr, bools_sub, take_all, hol, hoc, codesA_cells, nth_codes, cA_cells, ← hcp, codesA_set, hset]
      refine hR3 (k + 1) _ (by omega) (by omega) (.le ?_)
      rw [hcs, ← Nat.add_assoc, hw]
      simp (disch := omega) only [go_sem, simprocAttr]
    ·have hos := outL_skip l (m + 1) k hx
     rw [if_neg hx, Nat.add_zero] at hcs
     simp (disch := omega) only [go_sem, simprocAttr, hnl, nth_nats, hx]
     refine hR3 (k + 1) _ (by omega) (by omega) (.le ?_)
     rw [hos, hcs]
     simp (disch := omega) only [go_sem, simprocAttr]
   ·obtain rfl : k = l.length := by omega
    rw [List.take_of_length_le (Nat.le_refl _)] at *
    simp (disch := omega) only [go_sem, simprocAttr, hnl]
    refine hR2 (m + 1) _ (by omega) (by omega) (.le ?_)
    rw [outL_next, show endC l (m + 1) = fstL l (m + 1) + cntL l (m + 1) from if_neg (by omega)]
    simp (disch := omega) only [go_sem, simprocAttr]
  ·obtain rfl : m = 15 := by omega
   have hcl := codesA_len (codesL l)
   have hcl2 : (codesL l).length = l.length := by simp [codesL]
   have htk : (codesA (codesL l)).take l.length = codesA (codesL l) := List.take_of_length_le (by omega)
   have hoe := outL_end l hl
   simp (disch := omega) only [go_sem, simprocAttr]
   rw [hoe]
   exact hR.wk (h' := []) (r' := .ro 1 (codesA (codesL l))) (ar' := [.undef]) rfl (.frz 55011 (.le (by simp (disch := omega) only [go_sem, simprocAttr, sub3, htk, List.drop_zero]))) ⟨rfl, rfl⟩
theorem pre_false (a b : List Bool) (h : b.length < a.length) : a.isPrefixOf b = false := by
 cases hh : a.isPrefixOf b with
 | false => rfl
 | true => have := (List.isPrefixOf_iff_prefix.1 hh).length_le; omega
theorem r4begins_ok (b a : List Bool) (hb : b.length ≤ 1000000000) (ha : a.length ≤ 1000000000) : SpecR Tryz.prog 130 [.ro 1 (bools b), .ro 1 (bools a)] (.bool (a.isPrefixOf b)) := by
 refine Cod.r4begins_spec (fun E R hN hR => ?_)
 have hbl := bools_len b
 have hal := bools_len a
 by_cases hlt : b.length < a.length
 ·have hp := pre_false a b hlt
  simp (disch := omega) only [go_sem, simprocAttr, hbl, hal]
  exact hR.ro ⟨rfl, by rw [hp]⟩
 ·simp (disch := omega) only [go_sem, simprocAttr, hbl, hal]
  refine vcW_loop hN (fun i : Nat => ⟨[(0, .ro 1 (bools b)), (1, .ro 1 (bools a)), (12, .int .i64 a.length), (13, .int .i64 i)], []⟩) (fun i => i ≤ a.length ∧ a.take i = b.take i) (fun i => a.length - i) 0 (.le (by simp (disch := omega) only [go_sem, simprocAttr])) ⟨by omega, by simp⟩ ?_
  rintro i R1 ⟨hi, he⟩ hR1
  by_cases hil : i < a.length
  ·have hta := take_snoc a false hil
   have htb := take_snoc b false (show i < b.length by omega)
   have hR2 := hR1 (i + 1)
   generalize hx : a.getD i false = x at *
   generalize hy : b.getD i false = y at *
   by_cases hxy : x = y
   ·subst hxy
    simp (disch := omega) only [go_sem, simprocAttr, hbl, hal, nth_bools, hx, hy]
    have hd : (!(x == x)) = false := by simp
    simp (disch := omega) only [go_sem, simprocAttr, hd]
    exact hR2 _ (by omega) ⟨by omega, by rw [hta, htb, he]⟩ (.le (by simp (disch := omega) only [go_sem, simprocAttr]))
   ·have hd : (!(x == y)) = true := by simp [hxy]
    have hp : a.isPrefixOf b = false := by
     cases hh : a.isPrefixOf b with
     | false => rfl
     | true =>
      obtain ⟨r, hr⟩ := List.isPrefixOf_iff_prefix.1 hh
      refine (hxy ?_).elim
      rw [← hx, ← hy, ← hr, List.getD_eq_getElem?_getD, List.getD_eq_getElem?_getD, List.getElem?_append_left hil]
    simp (disch := omega) only [go_sem, simprocAttr, hbl, hal, nth_bools, hx, hy]
    simp (disch := omega) only [go_sem, simprocAttr, hd]
    exact hR.ro ⟨rfl, by rw [hp]⟩
  ·obtain rfl : i = a.length := by omega
   have hp : a.isPrefixOf b = true := by
    rw [List.isPrefixOf_iff_prefix, List.prefix_iff_eq_take]
    rw [List.take_length] at he
    exact he
   simp (disch := omega) only [go_sem, simprocAttr, hbl, hal]
   exact hR.ro ⟨rfl, by rw [hp]⟩
theorem findIdx_none_of {α : Type} {p : α → Bool} {cs : List α} (d : α) (h : ∀ j, j < cs.length → p (cs.getD j d) = false) : cs.findIdx? p = none := by
 rw [List.findIdx?_eq_none_iff]
 intro c hc
 obtain ⟨j, hj, rfl⟩ := List.getElem_of_mem hc
 have := h j hj
 rw [List.getD_eq_getElem?_getD, List.getElem?_eq_getElem hj] at this
 exact this
theorem findIdx_some_of {α : Type} {p : α → Bool} {cs : List α} (d : α) {i : Nat} (hi : i < cs.length) (h1 : p (cs.getD i d) = true) (h : ∀ j, j < i → p (cs.getD j d) = false) : cs.findIdx? p = some i := by
 rw [List.findIdx?_eq_some_iff_getElem]
 rw [List.getD_eq_getElem?_getD, List.getElem?_eq_getElem hi] at h1
 refine ⟨hi, h1, fun j hj hh => ?_⟩
 have := h j hj
 rw [List.getD_eq_getElem?_getD, List.getElem?_eq_getElem (by omega)] at this
 simp [hh] at this
theorem all_of {α : Type} {p : α → Bool} {cs : List α} (d : α) (h : ∀ j, j < cs.length → p (cs.getD j d) = true) : cs.all p = true := by
 rw [List.all_eq_true]
 intro c hc
 obtain ⟨j, hj, rfl⟩ := List.getElem_of_mem hc
 have := h j hj
 rw [List.getD_eq_getElem?_getD, List.getElem?_eq_getElem hj] at this
 exact this
theorem any_of {α : Type} {p : α → Bool} {cs : List α} (d : α) {i : Nat} (hi : i < cs.length) (h1 : p (cs.getD i d) = true) : cs.any p = true := by
 rw [List.any_eq_true]
 rw [List.getD_eq_getElem?_getD, List.getElem?_eq_getElem hi] at h1
 exact ⟨_, List.getElem_mem hi, h1⟩
theorem any_no {α : Type} {p : α → Bool} {cs : List α} (d : α) (h : ∀ j, j < cs.length → p (cs.getD j d) = false) : cs.any p = false := by
 rw [List.any_eq_false]
 intro c hc
 obtain ⟨j, hj, rfl⟩ := List.getElem_of_mem hc
 have := h j hj
 rw [List.getD_eq_getElem?_getD, List.getElem?_eq_getElem hj] at this
 simp only [Option.getD_some] at this
 rw [this]; simp
theorem all_no {α : Type} {p : α → Bool} {cs : List α} (d : α) {i : Nat} (hi : i < cs.length) (h1 : p (cs.getD i d) = false) : cs.all p = false := by
 rw [List.all_eq_false]
 rw [List.getD_eq_getElem?_getD, List.getElem?_eq_getElem hi] at h1
 refine ⟨_, List.getElem_mem hi, ?_⟩
 simp only [Option.getD_some] at h1
 rw [h1]; simp
set_option maxHeartbeats 1000000 in
theorem r4read_ok (cs : List (List Bool)) (b : List Bool) (hcs : cs.length ≤ 100000) (hcl : ∀ c ∈ cs, c.length ≤ 1000000) (hb : b.length ≤ 1000000000) :
    SpecR Tryz.prog 125 [.ro 1 (codesA cs), .ro 1 (bools b)] (.tup [.int .i64 ((readL cs b).1 : Nat), .int .i64 ((readL cs b).2.1 : Nat), .int .i64 ((readL cs b).2.2 : Nat)]) := by
 refine Cod.r4read_spec (fun E R hN hR => ?_)
 have hbl := bools_len b
 have hcsl := codesA_len cs
 have hgl : ∀ i, (cs.getD i []).length ≤ 1000000 := by
  intro i
  by_cases hi : i < cs.length
  ·rw [List.getD_eq_getElem?_getD, List.getElem?_eq_getElem hi]; exact hcl _ (List.getElem_mem hi)
  ·rw [List.getD_eq_getElem?_getD, List.getElem?_eq_none (by omega)]; simp
 simp (disch := omega) only [go_sem, simprocAttr, hcsl]
 refine vcW_loop hN (fun q : Nat × Bool => ⟨[(0, .ro 1 (codesA cs)), (1, .ro 1 (bools b)), (7, .bool q.2), (12, .ro 1 (codesA cs)), (13, .int .i64 cs.length), (14, .int .i64 q.1)], []⟩)
  (fun q => q.1 ≤ cs.length ∧ (∀ j, j < q.1 → hitL b (cs.getD j []) = false) ∧ (if q.2 then ∃ j, j < q.1 ∧ (cs.getD j []).isEmpty = false else ∀ j, j < q.1 → (cs.getD j []).isEmpty = true)) (fun q => cs.length - q.1) (0, false) (.le (by simp (disch := omega) only [go_sem, simprocAttr])) ⟨by omega, fun j h => by omega, fun j h => by simp only at h; omega⟩ ?_
 rintro ⟨i, sm⟩ R1 ⟨hi, hno, hsm⟩ hR1
 simp only at hi hno hsm
 by_cases hil : i < cs.length
 ·have hg := hgl i
  by_cases h0 : 0 < (cs.getD i []).length
  ·have hca := cA_pos h0
   have hne : (cs.getD i []).isEmpty = false := by cases hh : cs.getD i [] with
    | nil => rw [hh] at h0; simp at h0
    | cons => rfl
   have hbg := r4begins_ok b (cs.getD i []) hb (by omega)
   have hcb := bools_len (cs.getD i [])
   have hhit : hitL b (cs.getD i []) = (cs.getD i []).isPrefixOf b := by unfold hitL; rw [hne]; rfl
   simp (disch := omega) only [go_sem, simprocAttr, hcsl, nth_codes, hca, hcb]
   refine call_ro hbg rfl rfl ?_
   cases hp : (cs.getD i []).isPrefixOf b with
   | true =>
    rw [hp] at hhit
    have hr : readL cs b = (i, (cs.getD i []).length, 0) := by unfold readL; rw [findIdx_some_of [] hil hhit hno]
    rw [hr] at hR
    simp (disch := omega) only [go_sem, simprocAttr, hcb]
    exact hR.ro ⟨rfl, rfl⟩
   | false =>
    rw [hp] at hhit
    simp (disch := omega) only [go_sem, simprocAttr]
    refine hR1 (i + 1, true) _ (by simp only; omega) ⟨by simp only; omega, fun j hj => ?_, by simp only [if_true]; exact ⟨i, by omega, hne⟩⟩ (.le (by simp (disch := omega) only [go_sem, simprocAttr]))
    simp only at hj
    by_cases hji : j = i
    ·rw [hji]; exact hhit
    ·exact hno j (by omega)
  ·have hci : cs.getD i [] = [] := List.length_eq_zero_iff.1 (by omega)
   have hca : cA (cs.getD i []) = .nilsl := by rw [hci]; rfl
   simp (disch := omega) only [go_sem, simprocAttr, hcsl, nth_codes, hca]
   refine hR1 (i + 1, sm) _ (by simp only; omega) ⟨by simp only; omega, fun j hj => ?_, ?_⟩ (.le (by simp (disch := omega) only [go_sem, simprocAttr]))
   ·simp only at hj
    by_cases hji : j = i
    ·rw [hji, hci]; rfl
    ·exact hno j (by omega)
   ·cases sm with
    | true =>
     simp only [if_true] at hsm ⊢
     obtain ⟨j, h1, h2⟩ := hsm
     exact ⟨j, by omega, h2⟩
    | false =>
     intro j hj
     simp only at hj
     by_cases hji : j = i
     ·rw [hji, hci]; rfl
     ·exact hsm j (by omega)
 ·obtain rfl : i = cs.length := by omega
  have hfn := findIdx_none_of (p := hitL b) [] hno
  unfold readL at hR
  rw [hfn] at hR
  simp only at hR
  cases sm with
  | false =>
   have hae : cs.all (·.isEmpty) = true := all_of [] hsm
   rw [hae, if_pos rfl] at hR
   simp (disch := omega) only [go_sem, simprocAttr, hcsl]
   exact hR.ro ⟨rfl, rfl⟩
  | true =>
   obtain ⟨j, hj, hje⟩ := hsm
   have hae : cs.all (·.isEmpty) = false := all_no [] hj hje
   rw [hae, if_neg (by simp)] at hR
   simp (disch := omega) only [go_sem, simprocAttr, hcsl]
   refine vcW_loop hN (fun i : Nat => ⟨[(1, .ro 1 (bools b)), (31, .ro 1 (codesA cs)), (32, .int .i64 cs.length), (33, .int .i64 i)], []⟩)
    (fun i => i ≤ cs.length ∧ ∀ j, j < i → (decide (b.length < (cs.getD j []).length) && b.isPrefixOf (cs.getD j [])) = false) (fun i => cs.length - i) 0 (.le (by simp (disch := omega) only [go_sem, simprocAttr])) ⟨by omega, fun j h => by omega⟩ ?_
   rintro i R2 ⟨hi, hno2⟩ hR2
   by_cases hil : i < cs.length
   ·have hg := hgl i
    have go : (decide (b.length < (cs.getD i []).length) && b.isPrefixOf (cs.getD i [])) = false → R2.ap ⟨[(1, .ro 1 (bools b)), (31, .ro 1 (codesA cs)), (32, .int .i64 cs.length), (33, .int .i64 ((i : Int) + 1))], []⟩ := by
     intro h
     refine hR2 (i + 1) _ (by omega) ⟨by omega, fun j hj => ?_⟩ (.le (by simp (disch := omega) only [go_sem, simprocAttr]))
     by_cases hji : j = i
     ·rw [hji]; exact h
     ·exact hno2 j (by omega)
    by_cases hlt : b.length < (cs.getD i []).length
    ·have hca := cA_pos (c := cs.getD i []) (by omega)
     have hcb := bools_len (cs.getD i [])
     have hbg := r4begins_ok (cs.getD i []) b (by omega) hb
     simp (disch := omega) only [go_sem, simprocAttr, hcsl, nth_codes, hca, hcb, hbl]
     (repeat (first | refine gskip_of ?_ | refine gcskip_of ?_ | refine gopen_of ?_) <;> simp (disch := omega) only [go_sem, simprocAttr])
     refine gcyes_of (callT_ro (by simp (disch := omega) only [go_sem, simprocAttr]) hbg (by simp (disch := omega) only [go_sem, simprocAttr]) rfl rfl ?_)
     cases hp : b.isPrefixOf (cs.getD i []) with
     | true =>
      rw [if_pos (any_of [] hil (by rw [hp, decide_eq_true hlt]; rfl))] at hR
      simp (disch := omega) only [go_sem, simprocAttr]
      exact hR.ro ⟨rfl, rfl⟩
     | false =>
      simp (disch := omega) only [go_sem, simprocAttr]
      exact go (by rw [hp, Bool.and_false])
    ·have hgo := go (by rw [decide_eq_false hlt]; rfl)
     by_cases h0 : 0 < (cs.getD i []).length
     ·have hca := cA_pos h0
      have hcb := bools_len (cs.getD i [])
      simp (disch := omega) only [go_sem, simprocAttr, hcsl, nth_codes, hca, hcb, hbl]
      (repeat (first | refine gskip_of ?_ | refine gcskip_of ?_ | refine gopen_of ?_) <;> simp (disch := omega) only [go_sem, simprocAttr])
      exact hgo
     ·have hci : cs.getD i [] = [] := List.length_eq_zero_iff.1 (by omega)
      have hca : cA (cs.getD i []) = .nilsl := by rw [hci]; rfl
      simp (disch := omega) only [go_sem, simprocAttr, hcsl, nth_codes, hca, hbl]
      (repeat (first | refine gskip_of ?_ | refine gcskip_of ?_ | refine gopen_of ?_) <;> simp (disch := omega) only [go_sem, simprocAttr])
      exact hgo
   ·obtain rfl : i = cs.length := by omega
    rw [if_neg (by rw [any_no [] hno2]; simp)] at hR
    simp (disch := omega) only [go_sem, simprocAttr, hcsl]
    exact hR.ro ⟨rfl, rfl⟩
theorem r3up_ok (n : Nat) (h : n ≤ 10000000000000) : SpecR Tryz.prog 88 [.int .i64 n] (.int .i64 (upB n : Nat)) := by
 refine Cod.r3up_spec (fun E R hN hR => ?_)
 have e : ((n : Int) + 7) / 8 * 8 = ((upB n : Nat) : Int) := by unfold upB; omega
 simp (disch := omega) only [go_sem, simprocAttr, e]
 exact hR.ro ⟨rfl, rfl⟩
end Go.Proofs.YtjoefngnjoofeaaGreatDoor.Pk
namespace Go.Proofs.YtjoefngnjoofeaaGreatDoor.Cod
open Eng Eng.Kz
set_option maxRecDepth 100000
abbrev iput_3 : AK := .seq (.reg [k 4 (ci 0)] [4,2000000,2000001]) .ret
abbrev iput_2 : AK := .seq (.reg [m 15 0, m 16 0, .v 17 (.nilc (.t 16)), .v 18 (.fldA false 1 1 (.t 17)), .v 19 (.ld false 1 (.t 18)), m 20 1, .eff 21 false 60021 (.bsl 1 [(.t 20)]), .eff 22 false 60022 (.app 1 1 (.t 19) (.t 21)), .v 23 (.nilc (.t 15)), .v 24 (.fldA false 1 1 (.t 23)), .effN false 60000 (.st 1 (.t 24) (.t 22))] [2000000,2000001]) iput_3
abbrev iput_6 : AK := .seq (.reg [k 4 (ci 2)] [4,2000000,2000001]) .ret
abbrev iput_4 : AK := .seq (.reg [u 60005 5 (.mov (.t 0)), u 60006 6 (.nilc (.t 5)), u 60007 7 (.fldA false 1 1 (.t 6)), u 60008 8 (.ld false 1 (.t 7)), u 60009 9 (.len false (.t 8)), u 60010 10 (.mov (.t 0)), u 60011 11 (.nilc (.t 10)), u 60012 12 (.fldA false 2 1 (.t 11)), u 60013 13 (.ld false 1 (.t 12)), b 14 .eql 9 13] [0,1,14,2000000,2000001]) (.cond (.t 14) iput_6 .skip)
abbrev iput_1 : AK := .seq iput_4 iput_2
abbrev iput_0 : AK := .seq (.reg [k 4 (ci 0)] [0,1,2000000,2000001]) iput_1
abbrev iput : AK := iput_0
theorem iput_fn : FnOK Tryz.prog 107 60000 2 iput [.tmp 4] := ⟨_, Tryz.func107, by kernel_rfl⟩
theorem iput_spec {h : HP} {a0 a1 : AV} {Post : HP → AV → List AV → Prop} (hp : HpN Tryz.prog iput [.tmp 4] 2 [(0, a0), (1, a1), (2000000, a0), (2000001, a1)] h Post) : Eng.Spec Tryz.prog 107 h [a0, a1] Post := spec_fn iput_fn rfl [(0, a0), (1, a1), (2000000, a0), (2000001, a1)] ⟨rfl, rfl, rfl, rfl, trivial⟩ hp
abbrev istored_10 : AK := .seq (.reg [k 2 (ci 0)] [2,2000000]) .ret
abbrev istored_13 : AK := .seq (.reg [k 2 (ci 6)] [2,2000000]) .ret
abbrev istored_11 : AK := .seq (.reg [m 75 4, .v 76 (.un .not (.t 75))] [76,2000000]) (.cond (.t 76) istored_13 .skip)
abbrev istored_9 : AK := .seq istored_11 istored_10
abbrev istored_8 : AK := .seq (.reg [m 66 0, m 67 0, .v 68 (.nilc (.t 67)), .v 69 (.fldA false 1 1 (.t 68)), .v 70 (.ld false 1 (.t 69)), m 71 6, .eff 72 false 61072 (.app 1 1 (.t 70) (.t 71)), .v 73 (.nilc (.t 66)), .v 74 (.fldA false 1 1 (.t 73)), .effN false 61000 (.st 1 (.t 74) (.t 72))] [4,2000000]) istored_9
abbrev istored_16 : AK := .seq (.reg [k 2 (ci 2)] [2,2000000]) .ret
abbrev istored_14 : AK := .seq (.reg [u 61053 53 (.mov (.t 6)), u 61054 54 (.len true (.t 53)), u 61055 55 (.mov (.t 0)), u 61056 56 (.nilc (.t 55)), u 61057 57 (.fldA false 2 1 (.t 56)), u 61058 58 (.ld false 1 (.t 57)), u 61059 59 (.mov (.t 0)), u 61060 60 (.nilc (.t 59)), u 61061 61 (.fldA false 1 1 (.t 60)), u 61062 62 (.ld false 1 (.t 61)), u 61063 63 (.len false (.t 62)), u 61064 64 (.bin .sub (.t 58) (.t 63)), b 65 .gtr 54 64] [0,4,6,65,2000000]) (.cond (.t 65) istored_16 .skip)
abbrev istored_7 : AK := .seq istored_14 istored_8
abbrev istored_19 : AK := .reg [u 61040 40 (.mov (.t 0)), u 61041 41 (.nilc (.t 40)), u 61042 42 (.fldA false 0 1 (.t 41)), u 61043 43 (.ld false 1 (.t 42)), u 61044 44 (.mov (.t 0)), u 61045 45 (.nilc (.t 44)), u 61046 46 (.fldA false 0 1 (.t 45)), u 61047 47 (.ld false 1 (.t 46)), .cal (some 48) true 61048 123 [(.t 47)], u 61049 49 (.bin .quo (.t 48) (ci 8)), .cal (some 50) false 61050 121 [(.t 43), (.t 49)], m 39 50, u 61051 51 (.ext (.t 39) 0), u 61052 52 (.ext (.t 39) 1), u 61006 6 (.mov (.t 51))] [0,4,6,2000000]
abbrev istored_17 : AK := .seq (.reg [m 37 4, .v 38 (.un .not (.t 37))] [0,4,6,38,2000000]) (.cond (.t 38) istored_19 .skip)
def istored_6 : AK := .seq istored_17 (.mid istored_7)
abbrev istored_5 : AK := .seq (.reg [m 29 0, .v 30 (.nilc (.t 29)), .v 31 (.fldA false 0 1 (.t 30)), .v 32 (.ld false 1 (.t 31)), m 33 5, .cal (some 34) false 61034 121 [(.t 32), (.t 33)], m 28 34, .v 35 (.ext (.t 28) 0), .v 36 (.ext (.t 28) 1), m 6 35, m 4 36] [0,4,6,2000000]) istored_6
abbrev istored_22 : AK := .seq (.reg [k 2 (ci 3)] [2,2000000]) .ret
abbrev istored_20 : AK := .seq (.reg [m 21 5, bi 22 .xor 21 65535, m 23 3, .v 24 (.slcS (.t 23) (some (ci 2)) none), .cal (some 25) false 61025 122 [(.t 24)], .v 26 (.cvi .i64 (.t 25)), b 27 .neq 22 26] [0,5,27,2000000]) (.cond (.t 27) istored_22 .skip)
abbrev istored_4 : AK := .seq istored_20 istored_5
abbrev istored_3 : AK := .seq (.reg [m 17 3, .v 18 (.slcS (.t 17) none (some (ci 2))), .cal (some 19) false 61019 122 [(.t 18)], .v 20 (.cvi .i64 (.t 19)), m 5 20] [0,3,5,2000000]) istored_4
abbrev istored_25 : AK := .seq (.reg [k 2 (ci 6)] [2,2000000]) .ret
abbrev istored_23 : AK := .seq (.reg [m 15 4, .v 16 (.un .not (.t 15))] [0,3,16,2000000]) (.cond (.t 16) istored_25 .skip)
abbrev istored_2 : AK := .seq istored_23 istored_3
abbrev istored_1 : AK := .seq (.reg [m 8 0, .v 9 (.nilc (.t 8)), .v 10 (.fldA false 0 1 (.t 9)), .v 11 (.ld false 1 (.t 10)), .cal (some 12) false 61012 121 [(.t 11), (ci 4)], m 7 12, .v 13 (.ext (.t 7) 0), .v 14 (.ext (.t 7) 1), m 3 13, m 4 14] [0,3,4,2000000]) istored_2
abbrev istored_0 : AK := .seq (.reg [k 2 (ci 0)] [0,2000000]) istored_1
abbrev istored : AK := istored_0
theorem istored_fn : FnOK Tryz.prog 104 61000 1 istored [.tmp 2] := ⟨_, Tryz.func104, by kernel_rfl⟩
theorem istored_spec {h : HP} {a0 : AV} {Post : HP → AV → List AV → Prop} (hp : HpN Tryz.prog istored [.tmp 2] 1 [(0, a0), (2000000, a0)] h Post) : Eng.Spec Tryz.prog 104 h [a0] Post := spec_fn istored_fn rfl [(0, a0), (2000000, a0)] ⟨rfl, rfl, trivial⟩ hp
abbrev itables_14 : AK := .seq (.reg [m 184 24, m 185 26, m 2 184, m 3 185, k 4 (ci 0)] [2,3,4,2000000]) .ret
abbrev itables_17 : AK := .seq (.reg [k 2 (.c (.lit (.pointer none))), k 3 (.c (.lit (.pointer none))), k 4 (ci 3)] [2,3,4,2000000]) .ret
abbrev itables_15 : AK := .seq (.reg [m 172 16, .v 173 (.idxA 1 (.t 172) (ci 256)), .v 174 (.ld false 1 (.t 173)), bi 175 .eql 174 0, m 176 175, .gval 177 176 false false 62177 (.mov (.t 25)), .gval 178 176 false false 62178 (.bin .neq (.t 177) (ci 0)), .v 179 (.pick (.t 176) (.c (.bool true)) (.t 178)), m 180 179, .gval 181 180 false false 62181 (.mov (.t 27)), .gval 182 180 false false 62182 (.bin .neq (.t 181) (ci 0)), .v 183 (.pick (.t 180) (.c (.bool true)) (.t 182))] [24,26,183,2000000]) (.cond (.t 183) itables_17 .skip)
abbrev itables_13 : AK := .seq itables_15 itables_14
abbrev itables_12 : AK := .seq (.reg [m 166 16, m 167 7, .v 168 (.slcA 1 (.t 166) (some (.t 167)) none), .cal (some 169) false 62169 115 [(.t 168)], m 165 169, .v 170 (.ext (.t 165) 0), .v 171 (.ext (.t 165) 1), m 26 170, m 27 171] [16,24,25,26,27,2000000]) itables_13
abbrev itables_11 : AK := .seq (.reg [m 159 16, m 160 7, .v 161 (.slcA 1 (.t 159) none (some (.t 160))), .cal (some 162) false 62162 115 [(.t 161)], m 158 162, .v 163 (.ext (.t 158) 0), .v 164 (.ext (.t 158) 1), m 24 163, m 25 164] [7,16,24,25,2000000]) itables_12
abbrev itables_34 : AK := .reg [bi 157 .add 151 1, m 151 157] [0,7,8,14,16,21,150,151,2000000]
abbrev itables_36 : AK := .reg [m 153 16, m 154 21, .eff 155 false 62155 (.bsl 1 [(.t 154)]), .eff 156 false 62156 (.app 1 8 (.t 153) (.t 155)), m 16 156] [0,7,8,14,16,21,150,151,2000000]
abbrev itables_33 : AK := .seq (.block 6 itables_36) itables_34
abbrev itables_32 : AK := .seq (.cond (.t 152) .skip (.exit 5)) itables_33
abbrev itables_31 : AK := .seq (.reg [b 152 .lss 151 150] [0,7,8,14,16,21,150,151,152,2000000]) itables_32
abbrev itables_L1 : AK := .loop itables_31
abbrev itables_29 : AK := .seq (.reg [m 147 20, m 148 22, .v 149 (.cvi .i64 (.t 148)), b 150 .add 147 149, k 151 (ci 0)] [0,7,8,14,16,21,150,151,2000000]) (.block 5 itables_L1)
abbrev itables_40 : AK := .seq (.reg [k 2 (.c (.lit (.pointer none))), k 3 (.c (.lit (.pointer none))), k 4 (ci 3)] [2,3,4,2000000]) .ret
abbrev itables_38 : AK := .seq (.reg [m 136 16, .v 137 (.len false (.t 136)), m 138 20, b 139 .add 137 138, m 140 22, .v 141 (.cvi .i64 (.t 140)), b 142 .add 139 141, m 143 7, m 144 8, b 145 .add 143 144, b 146 .gtr 142 145] [0,7,8,14,16,20,21,22,146,2000000]) (.cond (.t 146) itables_40 .skip)
abbrev itables_28 : AK := .seq itables_38 itables_29
abbrev itables_43 : AK := .seq (.reg [k 2 (.c (.lit (.pointer none))), k 3 (.c (.lit (.pointer none))), k 4 (ci 6)] [2,3,4,2000000]) .ret
abbrev itables_41 : AK := .seq (.reg [m 134 23, .v 135 (.un .not (.t 134))] [0,7,8,14,16,20,21,22,135,2000000]) (.cond (.t 135) itables_43 .skip)
abbrev itables_27 : AK := .seq itables_41 itables_28
abbrev itables_26 : AK := .seq (.reg [m 126 0, .v 127 (.nilc (.t 126)), .v 128 (.fldA false 0 1 (.t 127)), .v 129 (.ld false 1 (.t 128)), m 130 19, .cal (some 131) false 62131 103 [(.t 129), (.t 130)], m 125 131, .v 132 (.ext (.t 125) 0), .v 133 (.ext (.t 125) 1), m 22 132, m 23 133] [0,7,8,14,16,20,21,22,23,2000000]) itables_27
abbrev itables_49 : AK := .reg [m 117 16, m 118 16, .v 119 (.len false (.t 118)), bi 120 .sub 119 1, .v 121 (.idxA 1 (.t 117) (.t 120)), .v 122 (.ld false 1 (.t 121)), m 21 122] [0,7,8,14,16,19,20,21,2000000]
abbrev itables_52 : AK := .seq (.reg [k 2 (.c (.lit (.pointer none))), k 3 (.c (.lit (.pointer none))), k 4 (ci 3)] [2,3,4,2000000]) .ret
abbrev itables_50 : AK := .seq (.reg [m 114 16, .v 115 (.len false (.t 114)), bi 116 .eql 115 0] [0,7,8,14,16,19,20,116,2000000]) (.cond (.t 116) itables_52 .skip)
abbrev itables_48 : AK := .seq itables_50 itables_49
abbrev itables_55 : AK := .reg [k 19 (ci 3)] [0,7,8,14,16,19,20,21,2000000]
abbrev itables_56 : AK := .reg [k 19 (ci 7), k 20 (ci 11)] [0,7,8,14,16,19,20,21,2000000]
abbrev itables_53 : AK := .seq (.reg [bi 124 .eql 111 17, m 123 124] [0,7,8,14,16,20,21,123,2000000]) (.cond (.t 123) itables_55 itables_56)
abbrev itables_46 : AK := .seq (.reg [bi 113 .eql 111 16, m 112 113] [0,7,8,14,16,19,20,21,111,112,2000000]) (.cond (.t 112) itables_48 itables_53)
abbrev itables_44 : AK := .seq (.reg [m 111 17] [0,7,8,14,16,19,20,21,111,2000000]) (.block 4 itables_46)
def itables_25 : AK := .seq itables_44 (.mid itables_26)
abbrev itables_24 : AK := .seq (.reg [k 19 (ci 2), k 20 (ci 3), k 21 (ci 0)] [0,7,8,14,16,17,19,20,21,2000000]) itables_25
abbrev itables_59 : AK := .seq (.reg [m 107 16, m 108 17, .eff 109 false 62109 (.bsl 1 [(.t 108)]), .eff 110 false 62110 (.app 1 8 (.t 107) (.t 109)), m 16 110] [0,7,8,14,16,2000000]) (.exit 3)
abbrev itables_57 : AK := .seq (.reg [m 105 17, bi 106 .lss 105 16] [0,7,8,14,16,17,106,2000000]) (.cond (.t 106) itables_59 .skip)
abbrev itables_23 : AK := .seq itables_57 itables_24
abbrev itables_62 : AK := .seq (.reg [m 104 18, k 2 (.c (.lit (.pointer none))), k 3 (.c (.lit (.pointer none))), m 4 104] [2,3,4,2000000]) .ret
abbrev itables_60 : AK := .seq (.reg [m 102 18, bi 103 .neq 102 0] [0,7,8,14,16,17,18,103,2000000]) (.cond (.t 103) itables_62 .skip)
abbrev itables_22 : AK := .seq itables_60 itables_23
abbrev itables_21 : AK := .seq (.reg [m 94 14, m 95 0, .v 96 (.nilc (.t 95)), .v 97 (.fldA false 0 1 (.t 96)), .v 98 (.ld false 1 (.t 97)), .cal (some 99) false 62099 106 [(.t 94), (.t 98)], m 93 99, .v 100 (.ext (.t 93) 0), .v 101 (.ext (.t 93) 1), m 17 100, m 18 101] [0,7,8,14,16,17,18,2000000]) itables_22
abbrev itables_63 : AK := .seq (.reg [m 87 16, .v 88 (.len false (.t 87)), m 89 7, m 90 8, b 91 .add 89 90, b 92 .lss 88 91] [0,7,8,14,16,92,2000000]) (.cond (.t 92) .skip (.exit 2))
abbrev itables_19 : AK := .seq itables_63 (.block 3 itables_21)
abbrev itables_L0 : AK := .loop itables_19
def itables_10 : AK := .seq (.block 2 itables_L0) (.mid itables_11)
abbrev itables_9 : AK := .seq (.reg [k 16 (.c (.nilsl))] [0,7,8,14,16,2000000]) itables_10
abbrev itables_67 : AK := .seq (.reg [k 2 (.c (.lit (.pointer none))), k 3 (.c (.lit (.pointer none))), k 4 (ci 3)] [2,3,4,2000000]) .ret
abbrev itables_65 : AK := .seq (.reg [m 85 15, bi 86 .neq 85 0] [0,7,8,14,86,2000000]) (.cond (.t 86) itables_67 .skip)
abbrev itables_8 : AK := .seq itables_65 itables_9
abbrev itables_7 : AK := .seq (.reg [m 81 10, .cal (some 82) false 62082 115 [(.t 81)], m 80 82, .v 83 (.ext (.t 80) 0), .v 84 (.ext (.t 80) 1), m 14 83, m 15 84] [0,7,8,14,15,2000000]) itables_8
abbrev itables_73 : AK := .reg [bi 79 .add 59 1, m 59 79] [0,7,8,10,58,59,2000000]
abbrev itables_78 : AK := .reg [m 72 10, .cal (some 73) false 62073 124 [], m 74 11, .v 75 (.idxV 19 (.t 73) (.t 74)), m 76 12, .v 77 (.cvi .i64 (.t 76)), .v 78 (.idxA 1 (.t 72) (.t 75)), .effN false 62000 (.st 1 (.t 78) (.t 77))] [0,7,8,10,58,59,2000000]
abbrev itables_81 : AK := .seq (.reg [k 2 (.c (.lit (.pointer none))), k 3 (.c (.lit (.pointer none))), k 4 (ci 6)] [2,3,4,2000000]) .ret
abbrev itables_79 : AK := .seq (.reg [m 70 13, .v 71 (.un .not (.t 70))] [0,7,8,10,11,12,58,59,71,2000000]) (.cond (.t 71) itables_81 .skip)
abbrev itables_77 : AK := .seq itables_79 itables_78
abbrev itables_76 : AK := .seq (.reg [m 63 0, .v 64 (.nilc (.t 63)), .v 65 (.fldA false 0 1 (.t 64)), .v 66 (.ld false 1 (.t 65)), .cal (some 67) false 62067 103 [(.t 66), (ci 3)], m 62 67, .v 68 (.ext (.t 62) 0), .v 69 (.ext (.t 62) 1), m 12 68, m 13 69] [0,7,8,10,11,12,13,58,59,2000000]) itables_77
abbrev itables_75 : AK := .seq (.reg [m 61 59, m 11 61] [0,7,8,10,11,58,59,2000000]) itables_76
abbrev itables_72 : AK := .seq (.block 1 itables_75) itables_73
abbrev itables_71 : AK := .seq (.cond (.t 60) .skip (.exit 0)) itables_72
abbrev itables_70 : AK := .seq (.reg [b 60 .lss 59 58] [0,7,8,10,58,59,60,2000000]) itables_71
abbrev itables_L2 : AK := .loop itables_70
abbrev itables_68 : AK := .seq (.reg [m 58 9, k 59 (ci 0)] [0,7,8,10,58,59,2000000]) (.block 0 itables_L2)
def itables_6 : AK := .seq itables_68 (.mid itables_7)
abbrev itables_5 : AK := .seq (.reg [.eff 57 false 62057 (.mks 1 8 [.int .i64 0] (ci 19) (ci 19)), m 10 57] [0,7,8,9,10,2000000]) itables_6
abbrev itables_85 : AK := .seq (.reg [k 2 (.c (.lit (.pointer none))), k 3 (.c (.lit (.pointer none))), k 4 (ci 3)] [2,3,4,2000000]) .ret
abbrev itables_83 : AK := .seq (.reg [m 51 7, bi 52 .gtr 51 286, m 53 52, .gval 54 53 false false 62054 (.mov (.t 8)), .gval 55 53 false false 62055 (.bin .gtr (.t 54) (ci 30)), .v 56 (.pick (.t 53) (.c (.bool true)) (.t 55))] [0,7,8,9,56,2000000]) (.cond (.t 56) itables_85 .skip)
abbrev itables_4 : AK := .seq itables_83 itables_5
abbrev itables_3 : AK := .seq (.reg [m 38 5, .v 39 (.bin .and (.t 38) (.c (.int .u32 31))), .v 40 (.cvi .i64 (.t 39)), bi 41 .add 40 257, m 42 5, .v 43 (.bin .shr (.t 42) (.c (.int .u64 5))), .v 44 (.bin .and (.t 43) (.c (.int .u32 31))), .v 45 (.cvi .i64 (.t 44)), bi 46 .add 45 1, m 47 5, .v 48 (.bin .shr (.t 47) (.c (.int .u64 10))), .v 49 (.cvi .i64 (.t 48)), bi 50 .add 49 4, m 7 41, m 8 46, m 9 50] [0,7,8,9,2000000]) itables_4
abbrev itables_88 : AK := .seq (.reg [k 2 (.c (.lit (.pointer none))), k 3 (.c (.lit (.pointer none))), k 4 (ci 6)] [2,3,4,2000000]) .ret
abbrev itables_86 : AK := .seq (.reg [m 36 6, .v 37 (.un .not (.t 36))] [0,5,37,2000000]) (.cond (.t 37) itables_88 .skip)
abbrev itables_2 : AK := .seq itables_86 itables_3
abbrev itables_1 : AK := .seq (.reg [m 29 0, .v 30 (.nilc (.t 29)), .v 31 (.fldA false 0 1 (.t 30)), .v 32 (.ld false 1 (.t 31)), .cal (some 33) false 62033 103 [(.t 32), (ci 14)], m 28 33, .v 34 (.ext (.t 28) 0), .v 35 (.ext (.t 28) 1), m 5 34, m 6 35] [0,5,6,2000000]) itables_2
abbrev itables_0 : AK := .seq (.reg [k 2 (.c (.lit (.pointer none))), k 3 (.c (.lit (.pointer none))), k 4 (ci 0)] [0,2000000]) itables_1
abbrev itables : AK := itables_0
theorem itables_fn : FnOK Tryz.prog 105 62000 1 itables [.tmp 2, .tmp 3, .tmp 4] := ⟨_, Tryz.func105, by kernel_rfl⟩
theorem itables_spec {h : HP} {a0 : AV} {Post : HP → AV → List AV → Prop} (hp : HpN Tryz.prog itables [.tmp 2, .tmp 3, .tmp 4] 1 [(0, a0), (2000000, a0)] h Post) : Eng.Spec Tryz.prog 105 h [a0] Post := spec_fn itables_fn rfl [(0, a0), (2000000, a0)] ⟨rfl, rfl, trivial⟩ hp
abbrev irepeat_15 : AK := .seq (.reg [k 6 (ci 0)] [6,2000000,2000001,2000002]) .ret
abbrev irepeat_21 : AK := .reg [bi 100 .add 80 1, m 80 100] [0,13,79,80,2000000,2000001,2000002]
abbrev irepeat_26 : AK := .seq (.reg [m 99 14, m 6 99] [6,2000000,2000001,2000002]) .ret
abbrev irepeat_24 : AK := .seq (.reg [m 97 14, bi 98 .neq 97 0] [0,13,14,79,80,98,2000000,2000001,2000002]) (.cond (.t 98) irepeat_26 .skip)
abbrev irepeat_23 : AK := .seq (.reg [u 63082 82 (.mov (.t 0)), u 63083 83 (.mov (.t 0)), u 63084 84 (.nilc (.t 83)), u 63085 85 (.fldA false 1 1 (.t 84)), u 63086 86 (.ld false 1 (.t 85)), u 63087 87 (.mov (.t 0)), u 63088 88 (.nilc (.t 87)), u 63089 89 (.fldA false 1 1 (.t 88)), u 63090 90 (.ld false 1 (.t 89)), u 63091 91 (.len false (.t 90)), u 63092 92 (.mov (.t 13)), u 63093 93 (.bin .sub (.t 91) (.t 92)), .v 94 (.idxA 1 (.t 86) (.t 93)), .v 95 (.ld false 1 (.t 94)), .cal (some 96) false 63096 107 [(.t 82), (.t 95)], m 14 96] [0,13,14,79,80,2000000,2000001,2000002]) irepeat_24
abbrev irepeat_20 : AK := .seq (.block 1 irepeat_23) irepeat_21
abbrev irepeat_19 : AK := .seq (.cond (.t 81) .skip (.exit 0)) irepeat_20
abbrev irepeat_18 : AK := .seq (.reg [b 81 .lss 80 79] [0,13,79,80,81,2000000,2000001,2000002]) irepeat_19
abbrev irepeat_L0 : AK := .loop irepeat_18
abbrev irepeat_16 : AK := .seq (.reg [m 79 7, k 80 (ci 0)] [0,13,79,80,2000000,2000001,2000002]) (.block 0 irepeat_L0)
abbrev irepeat_14 : AK := .seq irepeat_16 irepeat_15
abbrev irepeat_30 : AK := .seq (.reg [k 6 (ci 3)] [6,2000000,2000001,2000002]) .ret
abbrev irepeat_28 : AK := .seq (.reg [m 72 13, m 73 0, .v 74 (.nilc (.t 73)), .v 75 (.fldA false 1 1 (.t 74)), .v 76 (.ld false 1 (.t 75)), .v 77 (.len false (.t 76)), b 78 .gtr 72 77] [0,7,13,78,2000000,2000001,2000002]) (.cond (.t 78) irepeat_30 .skip)
abbrev irepeat_13 : AK := .seq irepeat_28 irepeat_14
abbrev irepeat_12 : AK := .seq (.reg [m 68 13, m 69 9, .v 70 (.cvi .i64 (.t 69)), b 71 .add 68 70, m 13 71] [0,7,13,2000000,2000001,2000002]) irepeat_13
abbrev irepeat_33 : AK := .seq (.reg [k 6 (ci 6)] [6,2000000,2000001,2000002]) .ret
abbrev irepeat_31 : AK := .seq (.reg [m 66 10, .v 67 (.un .not (.t 66))] [0,7,9,13,67,2000000,2000001,2000002]) (.cond (.t 67) irepeat_33 .skip)
abbrev irepeat_11 : AK := .seq irepeat_31 irepeat_12
abbrev irepeat_10 : AK := .seq (.reg [m 58 0, .v 59 (.nilc (.t 58)), .v 60 (.fldA false 0 1 (.t 59)), .v 61 (.ld false 1 (.t 60)), m 62 8, .cal (some 63) false 63063 103 [(.t 61), (.t 62)], m 57 63, .v 64 (.ext (.t 57) 0), .v 65 (.ext (.t 57) 1), m 9 64, m 10 65] [0,7,9,10,13,2000000,2000001,2000002]) irepeat_11
abbrev irepeat_9 : AK := .seq (.reg [m 53 11, .cal (some 54) false 63054 97 [(.t 53)], m 52 54, .v 55 (.ext (.t 52) 0), .v 56 (.ext (.t 52) 1), m 13 55, m 8 56] [0,7,8,13,2000000,2000001,2000002]) irepeat_10
abbrev irepeat_36 : AK := .seq (.reg [k 6 (ci 3)] [6,2000000,2000001,2000002]) .ret
abbrev irepeat_34 : AK := .seq (.reg [m 50 11, bi 51 .gtr 50 29] [0,7,11,51,2000000,2000001,2000002]) (.cond (.t 51) irepeat_36 .skip)
abbrev irepeat_8 : AK := .seq irepeat_34 irepeat_9
abbrev irepeat_39 : AK := .seq (.reg [m 49 12, m 6 49] [6,2000000,2000001,2000002]) .ret
abbrev irepeat_37 : AK := .seq (.reg [m 47 12, bi 48 .neq 47 0] [0,7,11,12,48,2000000,2000001,2000002]) (.cond (.t 48) irepeat_39 .skip)
abbrev irepeat_7 : AK := .seq irepeat_37 irepeat_8
abbrev irepeat_6 : AK := .seq (.reg [m 39 2, m 40 0, .v 41 (.nilc (.t 40)), .v 42 (.fldA false 0 1 (.t 41)), .v 43 (.ld false 1 (.t 42)), .cal (some 44) false 63044 106 [(.t 39), (.t 43)], m 38 44, .v 45 (.ext (.t 38) 0), .v 46 (.ext (.t 38) 1), m 11 45, m 12 46] [0,7,11,12,2000000,2000001,2000002]) irepeat_7
abbrev irepeat_5 : AK := .seq (.reg [m 34 7, m 35 9, .v 36 (.cvi .i64 (.t 35)), b 37 .add 34 36, m 7 37] [0,2,7,2000000,2000001,2000002]) irepeat_6
abbrev irepeat_42 : AK := .seq (.reg [k 6 (ci 6)] [6,2000000,2000001,2000002]) .ret
abbrev irepeat_40 : AK := .seq (.reg [m 32 10, .v 33 (.un .not (.t 32))] [0,2,7,9,33,2000000,2000001,2000002]) (.cond (.t 33) irepeat_42 .skip)
abbrev irepeat_4 : AK := .seq irepeat_40 irepeat_5
abbrev irepeat_3 : AK := .seq (.reg [m 24 0, .v 25 (.nilc (.t 24)), .v 26 (.fldA false 0 1 (.t 25)), .v 27 (.ld false 1 (.t 26)), m 28 8, .cal (some 29) false 63029 103 [(.t 27), (.t 28)], m 23 29, .v 30 (.ext (.t 23) 0), .v 31 (.ext (.t 23) 1), m 9 30, m 10 31] [0,2,7,9,10,2000000,2000001,2000002]) irepeat_4
abbrev irepeat_2 : AK := .seq (.reg [m 18 1, bi 19 .sub 18 257, .cal (some 20) false 63020 96 [(.t 19)], m 17 20, .v 21 (.ext (.t 17) 0), .v 22 (.ext (.t 17) 1), m 7 21, m 8 22] [0,2,7,8,2000000,2000001,2000002]) irepeat_3
abbrev irepeat_45 : AK := .seq (.reg [k 6 (ci 3)] [6,2000000,2000001,2000002]) .ret
abbrev irepeat_43 : AK := .seq (.reg [m 15 1, bi 16 .gtr 15 285] [0,1,2,16,2000000,2000001,2000002]) (.cond (.t 16) irepeat_45 .skip)
abbrev irepeat_1 : AK := .seq irepeat_43 irepeat_2
abbrev irepeat_0 : AK := .seq (.reg [k 6 (ci 0)] [0,1,2,2000000,2000001,2000002]) irepeat_1
abbrev irepeat : AK := irepeat_0
theorem irepeat_fn : FnOK Tryz.prog 108 63000 3 irepeat [.tmp 6] := ⟨_, Tryz.func108, by kernel_rfl⟩
theorem irepeat_spec {h : HP} {a0 a1 a2 : AV} {Post : HP → AV → List AV → Prop} (hp : HpN Tryz.prog irepeat [.tmp 6] 3 [(0, a0), (1, a1), (2, a2), (2000000, a0), (2000001, a1), (2000002, a2)] h Post) : Eng.Spec Tryz.prog 108 h [a0, a1, a2] Post := spec_fn irepeat_fn rfl [(0, a0), (1, a1), (2, a2), (2000000, a0), (2000001, a1), (2000002, a2)] ⟨rfl, rfl, rfl, rfl, rfl, rfl, trivial⟩ hp
abbrev irun_18 : AK := .seq (.reg [k 2 (ci 0)] [2,2000000]) .ret
abbrev irun_19 : AK := .seq (.reg [m 72 3, .v 73 (.bin .and (.t 72) (.c (.int .u32 1))), .v 74 (.bin .eql (.t 73) (.c (.int .u32 0)))] [0,74,2000000]) (.cond (.t 74) (.goto 0) .skip)
abbrev irun_17 : AK := .seq irun_19 irun_18
abbrev irun_16 : AK := .seq (.label 1) irun_17
abbrev irun_21 : AK := .seq (.reg [m 71 5, m 2 71] [2,2000000]) .ret
abbrev irun_15 : AK := .seq irun_21 irun_16
abbrev irun_22 : AK := .seq (.reg [m 69 5, bi 70 .eql 69 0] [0,3,5,7,8,70,2000000]) (.cond (.t 70) (.goto 2) .skip)
abbrev irun_14 : AK := .seq irun_22 irun_15
abbrev irun_26 : AK := .reg [m 61 0, m 62 6, .v 63 (.cvi .u8 (.t 62)), .cal (some 64) false 64064 107 [(.t 61), (.t 63)], m 5 64] [0,3,5,7,8,2000000]
abbrev irun_27 : AK := .reg [m 65 0, m 66 6, m 67 8, .cal (some 68) false 64068 108 [(.t 65), (.t 66), (.t 67)], m 5 68] [0,3,5,7,8,2000000]
abbrev irun_24 : AK := .seq (.reg [m 59 6, bi 60 .lss 59 256] [0,3,6,7,8,60,2000000]) (.cond (.t 60) irun_26 irun_27)
def irun_13 : AK := .seq irun_24 (.mid irun_14)
abbrev irun_28 : AK := .seq (.reg [m 57 6, bi 58 .eql 57 256] [0,3,6,7,8,58,2000000]) (.cond (.t 58) (.goto 1) .skip)
abbrev irun_12 : AK := .seq irun_28 irun_13
abbrev irun_33 : AK := .seq (.reg [m 56 5, m 2 56] [2,2000000]) .ret
abbrev irun_31 : AK := .seq (.reg [m 54 5, bi 55 .neq 54 0] [0,3,5,6,7,8,55,2000000]) (.cond (.t 55) irun_33 .skip)
abbrev irun_30 : AK := .seq (.reg [m 46 7, m 47 0, .v 48 (.nilc (.t 47)), .v 49 (.fldA false 0 1 (.t 48)), .v 50 (.ld false 1 (.t 49)), .cal (some 51) false 64051 106 [(.t 46), (.t 50)], m 45 51, .v 52 (.ext (.t 45) 0), .v 53 (.ext (.t 45) 1), m 6 52, m 5 53] [0,3,5,6,7,8,2000000]) irun_31
abbrev irun_11 : AK := .seq irun_30 irun_12
abbrev irun_10 : AK := .seq (.label 2) irun_11
abbrev irun_34 : AK := .seq (.reg [k 2 (ci 3)] [2,2000000]) .ret
abbrev irun_9 : AK := .seq irun_34 irun_10
abbrev irun_43 : AK := .seq (.reg [m 27 5, m 2 27] [2,2000000]) .ret
abbrev irun_41 : AK := .seq (.reg [m 25 5, bi 26 .neq 25 0] [0,3,5,26,2000000]) (.cond (.t 26) irun_43 .skip)
abbrev irun_40 : AK := .seq (.reg [m 23 0, .cal (some 24) false 64024 104 [(.t 23)], m 5 24] [0,3,5,2000000]) irun_41
abbrev irun_39 : AK := .seq irun_40 (.goto 1)
abbrev irun_46 : AK := .seq (.reg [.cal (some 31) false 64031 91 [], m 30 31, .v 32 (.ext (.t 30) 0), .v 33 (.ext (.t 30) 1), m 7 32, m 8 33] [0,3,7,8,2000000]) (.goto 2)
abbrev irun_53 : AK := .seq (.reg [m 44 5, m 2 44] [2,2000000]) .ret
abbrev irun_51 : AK := .seq (.reg [m 42 5, bi 43 .neq 42 0] [0,3,5,7,8,43,2000000]) (.cond (.t 43) irun_53 .skip)
abbrev irun_50 : AK := .seq (.reg [m 37 0, .cal (some 38) false 64038 105 [(.t 37)], m 36 38, .v 39 (.ext (.t 36) 0), .v 40 (.ext (.t 36) 1), .v 41 (.ext (.t 36) 2), m 7 39, m 8 40, m 5 41] [0,3,5,7,8,2000000]) irun_51
abbrev irun_49 : AK := .seq irun_50 (.goto 2)
abbrev irun_47 : AK := .seq (.reg [.v 35 (.bin .eql (.t 20) (.c (.int .u32 2))), m 34 35] [0,3,34,2000000]) (.cond (.t 34) irun_49 .skip)
abbrev irun_44 : AK := .seq (.reg [.v 29 (.bin .eql (.t 20) (.c (.int .u32 1))), m 28 29] [0,3,20,28,2000000]) (.cond (.t 28) irun_46 irun_47)
abbrev irun_37 : AK := .seq (.reg [.v 22 (.bin .eql (.t 20) (.c (.int .u32 0))), m 21 22] [0,3,20,21,2000000]) (.cond (.t 21) irun_39 irun_44)
abbrev irun_35 : AK := .seq (.reg [m 19 3, .v 20 (.bin .shr (.t 19) (.c (.int .u64 1)))] [0,3,20,2000000]) (.block 0 irun_37)
abbrev irun_8 : AK := .seq irun_35 irun_9
abbrev irun_57 : AK := .seq (.reg [k 2 (ci 6)] [2,2000000]) .ret
abbrev irun_55 : AK := .seq (.reg [m 17 4, .v 18 (.un .not (.t 17))] [0,3,18,2000000]) (.cond (.t 18) irun_57 .skip)
abbrev irun_54 : AK := .seq (.reg [m 10 0, .v 11 (.nilc (.t 10)), .v 12 (.fldA false 0 1 (.t 11)), .v 13 (.ld false 1 (.t 12)), .cal (some 14) false 64014 103 [(.t 13), (ci 3)], m 9 14, .v 15 (.ext (.t 9) 0), .v 16 (.ext (.t 9) 1), m 3 15, m 4 16] [0,3,4,2000000]) irun_55
abbrev irun_7 : AK := .seq irun_54 irun_8
def irun_6 : AK := .seq (.label 0) (.mid irun_7)
abbrev irun_5 : AK := .seq (.reg [k 7 (.c (.lit (.pointer none))), k 8 (.c (.lit (.pointer none)))] [0,2000000]) irun_6
abbrev irun_4 : AK := .seq (.reg [k 6 (ci 0)] [0,2000000]) irun_5
abbrev irun_3 : AK := .seq (.reg [k 5 (ci 0)] [0,2000000]) irun_4
abbrev irun_2 : AK := .seq (.reg [k 4 (.c (.bool false))] [0,2000000]) irun_3
abbrev irun_1 : AK := .seq (.reg [k 3 (.c (.int .u32 0))] [0,2000000]) irun_2
abbrev irun_S : AK := .scope irun_1
abbrev irun_0 : AK := .seq (.reg [k 2 (ci 0)] [0,2000000]) irun_S
abbrev irun : AK := irun_0
theorem irun_fn : FnOK Tryz.prog 77 64000 1 irun [.tmp 2] := ⟨_, Tryz.func77, by kernel_rfl⟩
theorem irun_spec {h : HP} {a0 : AV} {Post : HP → AV → List AV → Prop} (hp : HpN Tryz.prog irun [.tmp 2] 1 [(0, a0), (2000000, a0)] h Post) : Eng.Spec Tryz.prog 77 h [a0] Post := spec_fn irun_fn rfl [(0, a0), (2000000, a0)] ⟨rfl, rfl, trivial⟩ hp
abbrev inflate_4 : AK := .seq (.reg [u 65038 38 (.mov (.t 9)), u 65039 39 (.nilc (.t 38)), u 65040 40 (.fldA false 1 1 (.t 39)), u 65041 41 (.ld false 1 (.t 40)), u 65042 42 (.bts (.t 41)), u 65043 43 (.mov (.t 9)), u 65044 44 (.nilc (.t 43)), u 65045 45 (.fldA false 0 1 (.t 44)), u 65046 46 (.ld false 1 (.t 45)), .cal (some 47) true 65047 78 [(.t 46)], m 6 42, m 7 47, k 8 (ci 0)] [6,7,8]) .ret
abbrev inflate_8 : AK := .seq (.reg [m 37 10, k 6 (.c (.str [])), k 7 (ci 0), m 8 37] [6,7,8]) .ret
abbrev inflate_6 : AK := .seq (.reg [m 35 10, bi 36 .neq 35 0] [9,10,36]) (.cond (.t 36) inflate_8 .skip)
abbrev inflate_5 : AK := .seq (.reg [m 33 9, .cal (some 34) false 65034 77 [(.t 33)], m 10 34] [9,10]) inflate_6
abbrev inflate_3 : AK := .seq inflate_5 inflate_4
abbrev inflate_2 : AK := .seq (.reg [m 27 0, m 28 1, .cal (some 29) false 65029 76 [(.t 27), (.t 28)], m 30 2, .v 31 (.bld [.lit (.pointer none), .nilsl, .int .i64 0] [(0, 1, (.t 29)), (2, 1, (.t 30))]), .eff 32 false 65032 (.box 3 (.t 31)), m 9 32] [9]) inflate_3
abbrev inflate_11 : AK := .seq (.reg [k 6 (.c (.str [])), k 7 (ci 0), k 8 (ci 1)] [6,7,8]) .ret
abbrev inflate_9 : AK := .seq (.reg [m 11 1, bi 12 .lss 11 0, m 13 12, .gval 14 13 false false 65014 (.mov (.t 1)), .gval 15 13 false false 65015 (.mov (.t 0)), .gval 16 13 false false 65016 (.len true (.t 15)), .gval 17 13 false false 65017 (.bin .gtr (.t 14) (.t 16)), .v 18 (.pick (.t 13) (.c (.bool true)) (.t 17)), m 19 18, .gval 20 19 false false 65020 (.mov (.t 2)), .gval 21 19 false false 65021 (.bin .lss (.t 20) (ci 0)), .v 22 (.pick (.t 19) (.c (.bool true)) (.t 21)), m 23 22, .gval 24 23 false false 65024 (.mov (.t 2)), .gval 25 23 false false 65025 (.bin .gtr (.t 24) (ci 65536)), .v 26 (.pick (.t 23) (.c (.bool true)) (.t 25))] [0,1,2,26]) (.cond (.t 26) inflate_11 .skip)
abbrev inflate_1 : AK := .seq inflate_9 inflate_2
abbrev inflate_0 : AK := .seq (.reg [k 6 (.c (.str [])), k 7 (ci 0), k 8 (ci 0)] [0,1,2]) inflate_1
abbrev inflate : AK := inflate_0
theorem inflate_fn : FnOK Tryz.prog 53 65000 3 inflate [.tmp 6, .tmp 7, .tmp 8] := ⟨_, Tryz.func53, by kernel_rfl⟩
theorem inflate_spec {h : HP} {a0 a1 a2 : AV} {Post : HP → AV → List AV → Prop} (hp : HpN Tryz.prog inflate [.tmp 6, .tmp 7, .tmp 8] 3 [(0, a0), (1, a1), (2, a2)] h Post) : Eng.Spec Tryz.prog 53 h [a0, a1, a2] Post := spec_fn inflate_fn rfl [(0, a0), (1, a1), (2, a2)] ⟨rfl, rfl, rfl, trivial⟩ hp
abbrev ifixed_6 : AK := .seq (.reg [m 46 5, m 47 7, m 0 46, m 1 47] [0,1]) .ret
abbrev ifixed_5 : AK := .seq (.reg [m 42 3, .cal (some 43) false 66043 115 [(.t 42)], m 41 43, .v 44 (.ext (.t 41) 0), .v 45 (.ext (.t 41) 1), m 7 44, m 8 45] [5,7]) ifixed_6
abbrev ifixed_4 : AK := .seq (.reg [m 37 2, .cal (some 38) false 66038 115 [(.t 37)], m 36 38, .v 39 (.ext (.t 36) 0), .v 40 (.ext (.t 36) 1), m 5 39, m 6 40] [3,5]) ifixed_5
abbrev ifixed_12 : AK := .reg [bi 35 .add 30 1, m 30 35] [2,3,30]
abbrev ifixed_14 : AK := .reg [m 32 3, .eff 33 false 66033 (.bsl 1 [(ci 5)]), .eff 34 false 66034 (.app 1 8 (.t 32) (.t 33)), m 3 34] [2,3,30]
abbrev ifixed_11 : AK := .seq (.block 4 ifixed_14) ifixed_12
abbrev ifixed_10 : AK := .seq (.cond (.t 31) .skip (.exit 3)) ifixed_11
abbrev ifixed_9 : AK := .seq (.reg [bi 31 .lss 30 32] [2,3,30,31]) ifixed_10
abbrev ifixed_L0 : AK := .loop ifixed_9
abbrev ifixed_7 : AK := .seq (.reg [k 30 (ci 0)] [2,3,30]) (.block 3 ifixed_L0)
abbrev ifixed_3 : AK := .seq ifixed_7 ifixed_4
abbrev ifixed_21 : AK := .reg [bi 29 .add 9 1, m 9 29] [2,3,9]
abbrev ifixed_27 : AK := .reg [m 20 2, .eff 21 false 66021 (.bsl 1 [(ci 8)]), .eff 22 false 66022 (.app 1 8 (.t 20) (.t 21)), m 2 22] [2,3,9]
abbrev ifixed_30 : AK := .reg [m 26 2, .eff 27 false 66027 (.bsl 1 [(ci 9)]), .eff 28 false 66028 (.app 1 8 (.t 26) (.t 27)), m 2 28] [2,3,9]
abbrev ifixed_31 : AK := .reg [m 12 2, .eff 13 false 66013 (.bsl 1 [(ci 7)]), .eff 14 false 66014 (.app 1 8 (.t 12) (.t 13)), m 2 14] [2,3,9]
abbrev ifixed_28 : AK := .seq (.reg [m 24 4, bi 25 .lss 24 256, m 23 25] [2,3,9,23]) (.cond (.t 23) ifixed_30 ifixed_31)
abbrev ifixed_34 : AK := .reg [m 18 4, bi 19 .geq 18 280, m 15 19] [2,3,4,9,15]
abbrev ifixed_32 : AK := .seq (.reg [m 16 4, bi 17 .lss 16 144, m 15 17] [2,3,4,9,15]) (.cond (.t 15) .skip ifixed_34)
def ifixed_25 : AK := .seq ifixed_32 (.mid (.cond (.t 15) ifixed_27 ifixed_28))
abbrev ifixed_23 : AK := .seq (.reg [m 11 9, m 4 11] [2,3,4,9]) (.block 2 ifixed_25)
abbrev ifixed_20 : AK := .seq (.block 1 ifixed_23) ifixed_21
abbrev ifixed_19 : AK := .seq (.cond (.t 10) .skip (.exit 0)) ifixed_20
abbrev ifixed_18 : AK := .seq (.reg [bi 10 .lss 9 288] [2,3,9,10]) ifixed_19
abbrev ifixed_L1 : AK := .loop ifixed_18
abbrev ifixed_16 : AK := .seq (.reg [k 9 (ci 0)] [2,3,9]) (.block 0 ifixed_L1)
abbrev ifixed_2 : AK := .seq ifixed_16 ifixed_3
abbrev ifixed_1 : AK := .seq (.reg [k 2 (.c (.nilsl)), k 3 (.c (.nilsl))] [2,3]) ifixed_2
abbrev ifixed_0 : AK := .seq (.reg [k 0 (.c (.lit (.pointer none))), k 1 (.c (.lit (.pointer none)))] []) ifixed_1
abbrev ifixed : AK := ifixed_0
theorem ifixed_fn : FnOK Tryz.prog 91 66000 0 ifixed [.tmp 0, .tmp 1] := ⟨_, Tryz.func91, by kernel_rfl⟩
theorem ifixed_spec {h : HP} {Post : HP → AV → List AV → Prop} (hp : HpN Tryz.prog ifixed [.tmp 0, .tmp 1] 0 [] h Post) : Eng.Spec Tryz.prog 91 h [] Post := spec_fn ifixed_fn rfl [] trivial hp
abbrev iorder_1 : AK := .seq (.reg [.v 1 (.bld [.int .i64 0, .int .i64 0, .int .i64 0, .int .i64 0, .int .i64 0, .int .i64 0, .int .i64 0, .int .i64 0, .int .i64 0, .int .i64 0, .int .i64 0, .int .i64 0, .int .i64 0, .int .i64 0, .int .i64 0, .int .i64 0, .int .i64 0, .int .i64 0, .int .i64 0] [(0, 1, (ci 16)), (1, 1, (ci 17)), (2, 1, (ci 18)), (3, 1, (ci 0)), (4, 1, (ci 8)), (5, 1, (ci 7)), (6, 1, (ci 9)), (7, 1, (ci 6)), (8, 1, (ci 10)), (9, 1, (ci 5)), (10, 1, (ci 11)), (11, 1, (ci 4)), (12, 1, (ci 12)), (13, 1, (ci 3)), (14, 1, (ci 13)), (15, 1, (ci 2)), (16, 1, (ci 14)), (17, 1, (ci 1)), (18, 1, (ci 15))]), .effN false 67000 (.st 19 (.t 0) (.t 1))] [0]) .ret
abbrev iorder_0 : AK := .seq (.reg [.eff 0 false 67000 (.alloc [.int .i64 0, .int .i64 0, .int .i64 0, .int .i64 0, .int .i64 0, .int .i64 0, .int .i64 0, .int .i64 0, .int .i64 0, .int .i64 0, .int .i64 0, .int .i64 0, .int .i64 0, .int .i64 0, .int .i64 0, .int .i64 0, .int .i64 0, .int .i64 0, .int .i64 0])] [0]) iorder_1
abbrev iorder : AK := iorder_0
theorem iorder_fn : FnOK Tryz.prog 124 67000 0 iorder [.cell 0 true 19] := ⟨_, Tryz.func124, by kernel_rfl⟩
theorem iorder_spec {h : HP} {Post : HP → AV → List AV → Prop} (hp : HpN Tryz.prog iorder [.cell 0 true 19] 0 [] h Post) : Eng.Spec Tryz.prog 124 h [] Post := spec_fn iorder_fn rfl [] trivial hp
abbrev ilenb_4 : AK := .seq (.reg [m 14 0, bi 15 .rem 14 4, .v 16 (.bin .add (ci 4) (.t 15)), m 17 4, b 18 .shl 16 17, .v 19 (.bin .add (ci 3) (.t 18)), m 20 4, m 2 19, m 3 20] [2,3]) .ret
abbrev ilenb_3 : AK := .seq (.reg [m 11 0, bi 12 .quo 11 4, bi 13 .sub 12 1, m 4 13] [0,4]) ilenb_4
abbrev ilenb_7 : AK := .seq (.reg [m 9 0, .v 10 (.bin .add (ci 3) (.t 9)), m 2 10, k 3 (ci 0)] [2,3]) .ret
abbrev ilenb_5 : AK := .seq (.reg [m 7 0, bi 8 .lss 7 8] [0,8]) (.cond (.t 8) ilenb_7 .skip)
abbrev ilenb_2 : AK := .seq ilenb_5 ilenb_3
abbrev ilenb_10 : AK := .seq (.reg [k 2 (ci 258), k 3 (ci 0)] [2,3]) .ret
abbrev ilenb_8 : AK := .seq (.reg [m 5 0, bi 6 .eql 5 28] [0,6]) (.cond (.t 6) ilenb_10 .skip)
abbrev ilenb_1 : AK := .seq ilenb_8 ilenb_2
abbrev ilenb_0 : AK := .seq (.reg [k 2 (ci 0), k 3 (ci 0)] [0]) ilenb_1
abbrev ilenb : AK := ilenb_0
theorem ilenb_fn : FnOK Tryz.prog 96 68000 1 ilenb [.tmp 2, .tmp 3] := ⟨_, Tryz.func96, by kernel_rfl⟩
theorem ilenb_spec {h : HP} {a0 : AV} {Post : HP → AV → List AV → Prop} (hp : HpN Tryz.prog ilenb [.tmp 2, .tmp 3] 1 [(0, a0)] h Post) : Eng.Spec Tryz.prog 96 h [a0] Post := spec_fn ilenb_fn rfl [(0, a0)] ⟨rfl, trivial⟩ hp
abbrev idisb_3 : AK := .seq (.reg [m 12 0, bi 13 .rem 12 2, .v 14 (.bin .add (ci 2) (.t 13)), m 15 4, b 16 .shl 14 15, .v 17 (.bin .add (ci 1) (.t 16)), m 18 4, m 2 17, m 3 18] [2,3]) .ret
abbrev idisb_2 : AK := .seq (.reg [m 9 0, bi 10 .quo 9 2, bi 11 .sub 10 1, m 4 11] [0,4]) idisb_3
abbrev idisb_6 : AK := .seq (.reg [m 7 0, .v 8 (.bin .add (ci 1) (.t 7)), m 2 8, k 3 (ci 0)] [2,3]) .ret
abbrev idisb_4 : AK := .seq (.reg [m 5 0, bi 6 .lss 5 4] [0,6]) (.cond (.t 6) idisb_6 .skip)
abbrev idisb_1 : AK := .seq idisb_4 idisb_2
abbrev idisb_0 : AK := .seq (.reg [k 2 (ci 0), k 3 (ci 0)] [0]) idisb_1
abbrev idisb : AK := idisb_0
theorem idisb_fn : FnOK Tryz.prog 97 69000 1 idisb [.tmp 2, .tmp 3] := ⟨_, Tryz.func97, by kernel_rfl⟩
theorem idisb_spec {h : HP} {a0 : AV} {Post : HP → AV → List AV → Prop} (hp : HpN Tryz.prog idisb [.tmp 2, .tmp 3] 1 [(0, a0)] h Post) : Eng.Spec Tryz.prog 97 h [a0] Post := spec_fn idisb_fn rfl [(0, a0)] ⟨rfl, trivial⟩ hp
abbrev r5fail_2 : AK := .reg [m 9 0, m 10 1, .v 11 (.nilc (.t 9)), .v 12 (.fldA false 4 1 (.t 11)), .effN false 70000 (.st 1 (.t 12) (.t 10))] [2000000,2000001]
abbrev r5fail_0 : AK := .seq (.reg [m 4 0, .v 5 (.nilc (.t 4)), .v 6 (.fldA false 4 1 (.t 5)), .v 7 (.ld false 1 (.t 6)), bi 8 .eql 7 0] [0,1,8,2000000,2000001]) (.cond (.t 8) r5fail_2 .skip)
abbrev r5fail : AK := r5fail_0
theorem r5fail_fn : FnOK Tryz.prog 82 70000 2 r5fail [] := ⟨_, Tryz.func82, by kernel_rfl⟩
theorem r5fail_spec {h : HP} {a0 a1 : AV} {Post : HP → AV → List AV → Prop} (hp : HpN Tryz.prog r5fail [] 2 [(0, a0), (1, a1), (2000000, a0), (2000001, a1)] h Post) : Eng.Spec Tryz.prog 82 h [a0, a1] Post := spec_fn r5fail_fn rfl [(0, a0), (1, a1), (2000000, a0), (2000001, a1)] ⟨rfl, rfl, rfl, rfl, trivial⟩ hp
abbrev r5num_5 : AK := .seq (.reg [m 50 5, m 4 50] [4,2000000,2000001]) .ret
abbrev r5num_4 : AK := .seq (.reg [m 42 0, .v 43 (.nilc (.t 42)), .v 44 (.fldA false 1 1 (.t 43)), .v 45 (.ld false 1 (.t 44)), m 46 1, b 47 .add 45 46, .v 48 (.nilc (.t 42)), .v 49 (.fldA false 1 1 (.t 48)), .effN false 71000 (.st 1 (.t 49) (.t 47))] [5,2000000,2000001]) r5num_5
abbrev r5num_3 : AK := .seq (.reg [u 71025 25 (.mov (.t 0)), u 71026 26 (.nilc (.t 25)), u 71027 27 (.fldA false 0 1 (.t 26)), u 71028 28 (.ld false 1 (.t 27)), u 71029 29 (.mov (.t 0)), u 71030 30 (.nilc (.t 29)), u 71031 31 (.fldA false 1 1 (.t 30)), u 71032 32 (.ld false 1 (.t 31)), u 71033 33 (.mov (.t 0)), u 71034 34 (.nilc (.t 33)), u 71035 35 (.fldA false 1 1 (.t 34)), u 71036 36 (.ld false 1 (.t 35)), u 71037 37 (.mov (.t 1)), u 71038 38 (.bin .add (.t 36) (.t 37)), .v 39 (.slcA 1 (.t 28) (some (.t 32)) (some (.t 38))), .cal (some 40) false 71040 109 [(.t 39)], .v 41 (.cvi .i64 (.t 40)), m 5 41] [0,1,5,2000000,2000001]) r5num_4
abbrev r5num_9 : AK := .seq (.reg [k 4 (ci 0)] [4,2000000,2000001]) .ret
abbrev r5num_8 : AK := .seq (.reg [m 23 0, .cal (some 24) false 71024 82 [(.t 23), (ci 6)]] [2000000,2000001]) r5num_9
abbrev r5num_6 : AK := .seq (.reg [u 71011 11 (.mov (.t 0)), u 71012 12 (.nilc (.t 11)), u 71013 13 (.fldA false 1 1 (.t 12)), u 71014 14 (.ld false 1 (.t 13)), u 71015 15 (.mov (.t 1)), u 71016 16 (.bin .add (.t 14) (.t 15)), u 71017 17 (.mov (.t 0)), u 71018 18 (.nilc (.t 17)), u 71019 19 (.fldA false 0 1 (.t 18)), u 71020 20 (.ld false 1 (.t 19)), u 71021 21 (.len false (.t 20)), b 22 .gtr 16 21] [0,1,22,2000000,2000001]) (.cond (.t 22) r5num_8 .skip)
abbrev r5num_2 : AK := .seq r5num_6 r5num_3
abbrev r5num_12 : AK := .seq (.reg [k 4 (ci 0)] [4,2000000,2000001]) .ret
abbrev r5num_10 : AK := .seq (.reg [m 6 0, .v 7 (.nilc (.t 6)), .v 8 (.fldA false 4 1 (.t 7)), .v 9 (.ld false 1 (.t 8)), bi 10 .neq 9 0] [0,1,10,2000000,2000001]) (.cond (.t 10) r5num_12 .skip)
abbrev r5num_1 : AK := .seq r5num_10 r5num_2
abbrev r5num_0 : AK := .seq (.reg [k 4 (ci 0)] [0,1,2000000,2000001]) r5num_1
abbrev r5num : AK := r5num_0
theorem r5num_fn : FnOK Tryz.prog 83 71000 2 r5num [.tmp 4] := ⟨_, Tryz.func83, by kernel_rfl⟩
theorem r5num_spec {h : HP} {a0 a1 : AV} {Post : HP → AV → List AV → Prop} (hp : HpN Tryz.prog r5num [.tmp 4] 2 [(0, a0), (1, a1), (2000000, a0), (2000001, a1)] h Post) : Eng.Spec Tryz.prog 83 h [a0, a1] Post := spec_fn r5num_fn rfl [(0, a0), (1, a1), (2000000, a0), (2000001, a1)] ⟨rfl, rfl, rfl, rfl, trivial⟩ hp
abbrev r5sym_5 : AK := .seq (.reg [m 52 5, m 4 52] [4,2000000,2000001]) .ret
abbrev r5sym_4 : AK := .seq (.reg [m 44 0, .v 45 (.nilc (.t 44)), .v 46 (.fldA false 1 1 (.t 45)), .v 47 (.ld false 1 (.t 46)), m 48 6, b 49 .add 47 48, .v 50 (.nilc (.t 44)), .v 51 (.fldA false 1 1 (.t 50)), .effN false 72000 (.st 1 (.t 51) (.t 49))] [5,2000000,2000001]) r5sym_5
abbrev r5sym_9 : AK := .seq (.reg [k 4 (ci 0)] [4,2000000,2000001]) .ret
abbrev r5sym_8 : AK := .seq (.reg [m 41 0, m 42 7, .cal (some 43) false 72043 82 [(.t 41), (.t 42)]] [2000000,2000001]) r5sym_9
abbrev r5sym_6 : AK := .seq (.reg [m 39 7, bi 40 .neq 39 0] [0,5,6,7,40,2000000,2000001]) (.cond (.t 40) r5sym_8 .skip)
abbrev r5sym_3 : AK := .seq r5sym_6 r5sym_4
abbrev r5sym_2 : AK := .seq (.reg [u 72014 14 (.mov (.t 1)), u 72015 15 (.mov (.t 0)), u 72016 16 (.nilc (.t 15)), u 72017 17 (.fldA false 0 1 (.t 16)), u 72018 18 (.ld false 1 (.t 17)), u 72019 19 (.mov (.t 0)), u 72020 20 (.nilc (.t 19)), u 72021 21 (.fldA false 1 1 (.t 20)), u 72022 22 (.ld false 1 (.t 21)), u 72023 23 (.mov (.t 0)), u 72024 24 (.nilc (.t 23)), u 72025 25 (.fldA false 1 1 (.t 24)), u 72026 26 (.ld false 1 (.t 25)), u 72027 27 (.bin .add (.t 26) (ci 16)), u 72028 28 (.mov (.t 0)), u 72029 29 (.nilc (.t 28)), u 72030 30 (.fldA false 0 1 (.t 29)), u 72031 31 (.ld false 1 (.t 30)), u 72032 32 (.len false (.t 31)), u 72033 33 (.mm false (.t 27) (.t 32)), .v 34 (.slcA 1 (.t 18) (some (.t 22)) (some (.t 33))), .cal (some 35) false 72035 125 [(.t 14), (.t 34)], m 13 35, u 72036 36 (.ext (.t 13) 0), u 72037 37 (.ext (.t 13) 1), u 72038 38 (.ext (.t 13) 2), u 72005 5 (.mov (.t 36)), u 72006 6 (.mov (.t 37)), m 7 38] [0,5,6,7,2000000,2000001]) r5sym_3
abbrev r5sym_12 : AK := .seq (.reg [k 4 (ci 0)] [4,2000000,2000001]) .ret
abbrev r5sym_10 : AK := .seq (.reg [m 8 0, .v 9 (.nilc (.t 8)), .v 10 (.fldA false 4 1 (.t 9)), .v 11 (.ld false 1 (.t 10)), bi 12 .neq 11 0] [0,1,12,2000000,2000001]) (.cond (.t 12) r5sym_12 .skip)
abbrev r5sym_1 : AK := .seq r5sym_10 r5sym_2
abbrev r5sym_0 : AK := .seq (.reg [k 4 (ci 0)] [0,1,2000000,2000001]) r5sym_1
abbrev r5sym : AK := r5sym_0
theorem r5sym_fn : FnOK Tryz.prog 113 72000 2 r5sym [.tmp 4] := ⟨_, Tryz.func113, by kernel_rfl⟩
theorem r5sym_spec {h : HP} {a0 a1 : AV} {Post : HP → AV → List AV → Prop} (hp : HpN Tryz.prog r5sym [.tmp 4] 2 [(0, a0), (1, a1), (2000000, a0), (2000001, a1)] h Post) : Eng.Spec Tryz.prog 113 h [a0, a1] Post := spec_fn r5sym_fn rfl [(0, a0), (1, a1), (2000000, a0), (2000001, a1)] ⟨rfl, rfl, rfl, rfl, trivial⟩ hp
abbrev r5put_3 : AK := .reg [m 28 0, m 29 0, .v 30 (.nilc (.t 29)), .v 31 (.fldA false 2 1 (.t 30)), .v 32 (.ld false 1 (.t 31)), m 33 1, .eff 34 false 73034 (.bsl 1 [(.t 33)]), .eff 35 false 73035 (.app 1 1 (.t 32) (.t 34)), .v 36 (.nilc (.t 28)), .v 37 (.fldA false 2 1 (.t 36)), .effN false 73000 (.st 1 (.t 37) (.t 35))] [2000000,2000001]
abbrev r5put_1 : AK := .seq (.reg [m 23 0, .v 24 (.nilc (.t 23)), .v 25 (.fldA false 4 1 (.t 24)), .v 26 (.ld false 1 (.t 25)), bi 27 .eql 26 0] [0,1,27,2000000,2000001]) (.cond (.t 27) r5put_3 .skip)
abbrev r5put_6 : AK := .reg [m 21 0, .cal (some 22) false 73022 82 [(.t 21), (ci 2)]] [0,1,2000000,2000001]
abbrev r5put_4 : AK := .seq (.reg [m 4 0, .v 5 (.nilc (.t 4)), .v 6 (.fldA false 4 1 (.t 5)), .v 7 (.ld false 1 (.t 6)), bi 8 .eql 7 0, m 9 8, .gval 10 9 true true 73010 (.mov (.t 0)), .gval 11 9 true true 73011 (.nilc (.t 10)), .gval 12 9 true true 73012 (.fldA false 2 1 (.t 11)), .gval 13 9 true true 73013 (.ld false 1 (.t 12)), .gval 14 9 true true 73014 (.len false (.t 13)), .gval 15 9 true true 73015 (.mov (.t 0)), .gval 16 9 true true 73016 (.nilc (.t 15)), .gval 17 9 true true 73017 (.fldA false 3 1 (.t 16)), .gval 18 9 true true 73018 (.ld false 1 (.t 17)), .gval 19 9 true false 73019 (.bin .geq (.t 14) (.t 18)), .v 20 (.pick (.t 9) (.t 19) (.c (.bool false)))] [0,1,20,2000000,2000001]) (.cond (.t 20) r5put_6 .skip)
def r5put_0 : AK := .seq r5put_4 (.mid r5put_1)
abbrev r5put : AK := r5put_0
theorem r5put_jn (P : Program) (E : Env) (Q : KQ) (st : St) :
 (vcW P E r5put_0 Q st = vcW P E r5put_4 (KQ.seq P E (.mid r5put_1) Q) st) :=
 rfl
theorem r5put_fn : FnOK Tryz.prog 110 73000 2 r5put [] := ⟨_, Tryz.func110, by kernel_rfl⟩
theorem r5put_spec {h : HP} {a0 a1 : AV} {Post : HP → AV → List AV → Prop} (hp : HpN Tryz.prog r5put [] 2 [(0, a0), (1, a1), (2000000, a0), (2000001, a1)] h Post) : Eng.Spec Tryz.prog 110 h [a0, a1] Post := spec_fn r5put_fn rfl [(0, a0), (1, a1), (2000000, a0), (2000001, a1)] ⟨rfl, rfl, rfl, rfl, trivial⟩ hp
abbrev r5stored_8 : AK := .reg [m 41 4, bi 42 .add 41 1, m 4 42] [0,2,4,2000000]
abbrev r5stored_11 : AK := .reg [m 45 0, m 46 5, .v 47 (.cvi .u8 (.t 46)), .cal (some 48) false 74048 110 [(.t 45), (.t 47)]] [0,2,4,2000000]
abbrev r5stored_10 : AK := .seq (.reg [m 43 0, .cal (some 44) false 74044 83 [(.t 43), (ci 8)], m 5 44] [0,2,4,5,2000000]) r5stored_11
abbrev r5stored_7 : AK := .seq (.block 1 r5stored_10) r5stored_8
abbrev r5stored_12 : AK := .seq (.reg [m 31 4, m 32 2, b 33 .lss 31 32, m 34 33, .gval 35 34 true false 74035 (.mov (.t 0)), .gval 36 34 true false 74036 (.nilc (.t 35)), .gval 37 34 true false 74037 (.fldA false 4 1 (.t 36)), .gval 38 34 true false 74038 (.ld false 1 (.t 37)), .gval 39 34 true false 74039 (.bin .eql (.t 38) (ci 0)), .v 40 (.pick (.t 34) (.t 39) (.c (.bool false)))] [0,2,4,40,2000000]) (.cond (.t 40) .skip (.exit 0))
abbrev r5stored_6 : AK := .seq r5stored_12 r5stored_7
abbrev r5stored_L0 : AK := .loop r5stored_6
abbrev r5stored_4 : AK := .seq (.reg [k 4 (ci 0)] [0,2,4,2000000]) (.block 0 r5stored_L0)
abbrev r5stored_16 : AK := .reg [m 29 0, .cal (some 30) false 74030 82 [(.t 29), (ci 3)]] [0,2,2000000]
abbrev r5stored_14 : AK := .seq (.reg [m 18 0, .v 19 (.nilc (.t 18)), .v 20 (.fldA false 4 1 (.t 19)), .v 21 (.ld false 1 (.t 20)), bi 22 .eql 21 0, m 23 22, .gval 24 23 true false 74024 (.mov (.t 2)), .gval 25 23 true false 74025 (.mov (.t 3)), .gval 26 23 true false 74026 (.bin .add (.t 24) (.t 25)), .gval 27 23 true false 74027 (.bin .neq (.t 26) (ci 65535)), .v 28 (.pick (.t 23) (.t 27) (.c (.bool false)))] [0,2,28,2000000]) (.cond (.t 28) r5stored_16 .skip)
def r5stored_3 : AK := .seq r5stored_14 (.mid r5stored_4)
abbrev r5stored_2 : AK := .seq (.reg [m 16 0, .cal (some 17) false 74017 83 [(.t 16), (ci 16)], m 3 17] [0,2,3,2000000]) r5stored_3
abbrev r5stored_1 : AK := .seq (.reg [m 14 0, .cal (some 15) false 74015 83 [(.t 14), (ci 16)], m 2 15] [0,2,2000000]) r5stored_2
abbrev r5stored_0 : AK := .seq (.reg [m 6 0, m 7 0, .v 8 (.nilc (.t 7)), .v 9 (.fldA false 1 1 (.t 8)), .v 10 (.ld false 1 (.t 9)), .cal (some 11) false 74011 88 [(.t 10)], .v 12 (.nilc (.t 6)), .v 13 (.fldA false 1 1 (.t 12)), .effN false 74000 (.st 1 (.t 13) (.t 11))] [0,2000000]) r5stored_1
abbrev r5stored : AK := r5stored_0
theorem r5stored_fn : FnOK Tryz.prog 84 74000 1 r5stored [] := ⟨_, Tryz.func84, by kernel_rfl⟩
theorem r5stored_spec {h : HP} {a0 : AV} {Post : HP → AV → List AV → Prop} (hp : HpN Tryz.prog r5stored [] 1 [(0, a0), (2000000, a0)] h Post) : Eng.Spec Tryz.prog 84 h [a0] Post := spec_fn r5stored_fn rfl [(0, a0), (2000000, a0)] ⟨rfl, rfl, trivial⟩ hp
abbrev r5dyn_14 : AK := .seq (.reg [u 75197 197 (.mov (.t 11)), u 75198 198 (.mov (.t 4)), u 75199 199 (.slcA 1 (.t 197) none (some (.t 198))), u 75200 200 (.mov (.t 11)), u 75201 201 (.mov (.t 4)), u 75202 202 (.slcA 1 (.t 200) (some (.t 201)) none), u 75002 2 (.mov (.t 199)), m 3 202] [2,3,2000000]) .ret
abbrev r5dyn_18 : AK := .seq (.reg [k 2 (.c (.nilsl)), k 3 (.c (.nilsl))] [2,3,2000000]) .ret
abbrev r5dyn_17 : AK := .seq (.reg [m 195 0, .cal (some 196) false 75196 82 [(.t 195), (ci 3)]] [2000000]) r5dyn_18
abbrev r5dyn_15 : AK := .seq (.reg [m 177 11, .v 178 (.idxA 1 (.t 177) (ci 256)), .v 179 (.ld false 1 (.t 178)), bi 180 .eql 179 0, m 181 180, .gval 182 181 false false 75182 (.mov (.t 11)), .gval 183 181 false false 75183 (.mov (.t 4)), .gval 184 181 false false 75184 (.slcA 1 (.t 182) none (some (.t 183))), .gcal 185 181 false false 75185 114 [(.t 184)], .gval 186 181 false false 75186 (.bin .neq (.t 185) (ci 0)), .v 187 (.pick (.t 181) (.c (.bool true)) (.t 186)), m 188 187, .gval 189 188 false false 75189 (.mov (.t 11)), .gval 190 188 false false 75190 (.mov (.t 4)), .gval 191 188 false false 75191 (.slcA 1 (.t 189) (some (.t 190)) none), .gcal 192 188 false false 75192 114 [(.t 191)], .gval 193 188 false false 75193 (.bin .neq (.t 192) (ci 0)), .v 194 (.pick (.t 188) (.c (.bool true)) (.t 193))] [0,4,11,194,2000000]) (.cond (.t 194) r5dyn_17 .skip)
abbrev r5dyn_13 : AK := .seq r5dyn_15 r5dyn_14
abbrev r5dyn_21 : AK := .seq (.reg [k 2 (.c (.nilsl)), k 3 (.c (.nilsl))] [2,3,2000000]) .ret
abbrev r5dyn_19 : AK := .seq (.reg [m 172 0, .v 173 (.nilc (.t 172)), .v 174 (.fldA false 4 1 (.t 173)), .v 175 (.ld false 1 (.t 174)), bi 176 .neq 175 0] [0,4,11,176,2000000]) (.cond (.t 176) r5dyn_21 .skip)
abbrev r5dyn_12 : AK := .seq r5dyn_19 r5dyn_13
abbrev r5dyn_33 : AK := .reg [m 166 15, bi 167 .add 166 1, m 15 167] [0,4,5,10,11,13,14,15,2000000]
abbrev r5dyn_35 : AK := .reg [m 168 11, m 169 14, .eff 170 false 75170 (.bsl 1 [(.t 169)]), .eff 171 false 75171 (.app 1 8 (.t 168) (.t 170)), m 11 171] [0,4,5,10,11,13,14,15,2000000]
abbrev r5dyn_32 : AK := .seq (.block 6 r5dyn_35) r5dyn_33
abbrev r5dyn_36 : AK := .seq (.reg [m 156 15, m 157 13, b 158 .lss 156 157, m 159 158, .gval 160 159 true false 75160 (.mov (.t 0)), .gval 161 159 true false 75161 (.nilc (.t 160)), .gval 162 159 true false 75162 (.fldA false 4 1 (.t 161)), .gval 163 159 true false 75163 (.ld false 1 (.t 162)), .gval 164 159 true false 75164 (.bin .eql (.t 163) (ci 0)), .v 165 (.pick (.t 159) (.t 164) (.c (.bool false)))] [0,4,5,10,11,13,14,15,165,2000000]) (.cond (.t 165) .skip (.exit 5))
abbrev r5dyn_31 : AK := .seq r5dyn_36 r5dyn_32
abbrev r5dyn_L1 : AK := .loop r5dyn_31
abbrev r5dyn_29 : AK := .seq (.reg [k 15 (ci 0)] [0,4,5,10,11,13,14,15,2000000]) (.block 5 r5dyn_L1)
abbrev r5dyn_40 : AK := .reg [m 154 0, .cal (some 155) false 75155 82 [(.t 154), (ci 3)]] [0,4,5,10,11,13,14,2000000]
abbrev r5dyn_38 : AK := .seq (.reg [m 139 0, .v 140 (.nilc (.t 139)), .v 141 (.fldA false 4 1 (.t 140)), .v 142 (.ld false 1 (.t 141)), bi 143 .eql 142 0, m 144 143, .gval 145 144 true false 75145 (.mov (.t 11)), .gval 146 144 true false 75146 (.len false (.t 145)), .gval 147 144 true false 75147 (.mov (.t 13)), .gval 148 144 true false 75148 (.bin .add (.t 146) (.t 147)), .gval 149 144 true false 75149 (.mov (.t 4)), .gval 150 144 true false 75150 (.mov (.t 5)), .gval 151 144 true false 75151 (.bin .add (.t 149) (.t 150)), .gval 152 144 true false 75152 (.bin .gtr (.t 148) (.t 151)), .v 153 (.pick (.t 144) (.t 152) (.c (.bool false)))] [0,4,5,10,11,13,14,153,2000000]) (.cond (.t 153) r5dyn_40 .skip)
def r5dyn_28 : AK := .seq r5dyn_38 (.mid r5dyn_29)
abbrev r5dyn_47 : AK := .reg [m 126 0, .cal (some 127) false 75127 83 [(.t 126), (ci 2)], .v 128 (.bin .add (ci 3) (.t 127)), m 13 128] [0,4,5,10,11,13,14,2000000]
abbrev r5dyn_46 : AK := .seq (.reg [m 120 11, m 121 11, .v 122 (.len false (.t 121)), bi 123 .sub 122 1, .v 124 (.idxA 1 (.t 120) (.t 123)), .v 125 (.ld false 1 (.t 124)), m 14 125] [0,4,5,10,11,14,2000000]) r5dyn_47
abbrev r5dyn_51 : AK := .seq (.reg [k 2 (.c (.nilsl)), k 3 (.c (.nilsl))] [2,3,2000000]) .ret
abbrev r5dyn_50 : AK := .seq (.reg [m 118 0, .cal (some 119) false 75119 82 [(.t 118), (ci 3)]] [2000000]) r5dyn_51
abbrev r5dyn_48 : AK := .seq (.reg [m 115 11, .v 116 (.len false (.t 115)), bi 117 .eql 116 0] [0,4,5,10,11,117,2000000]) (.cond (.t 117) r5dyn_50 .skip)
abbrev r5dyn_45 : AK := .seq r5dyn_48 r5dyn_46
abbrev r5dyn_55 : AK := .reg [m 131 0, .cal (some 132) false 75132 83 [(.t 131), (ci 3)], .v 133 (.bin .add (ci 3) (.t 132)), m 13 133] [0,4,5,10,11,13,14,2000000]
abbrev r5dyn_54 : AK := .seq (.reg [k 14 (ci 0)] [0,4,5,10,11,14,2000000]) r5dyn_55
abbrev r5dyn_59 : AK := .reg [m 136 0, .cal (some 137) false 75137 83 [(.t 136), (ci 7)], .v 138 (.bin .add (ci 11) (.t 137)), m 13 138] [0,4,5,10,11,13,14,2000000]
abbrev r5dyn_58 : AK := .seq (.reg [k 14 (ci 0)] [0,4,5,10,11,14,2000000]) r5dyn_59
abbrev r5dyn_56 : AK := .seq (.reg [bi 135 .eql 112 18, m 134 135] [0,4,5,10,11,13,14,134,2000000]) (.cond (.t 134) r5dyn_58 .skip)
abbrev r5dyn_52 : AK := .seq (.reg [bi 130 .eql 112 17, m 129 130] [0,4,5,10,11,13,14,112,129,2000000]) (.cond (.t 129) r5dyn_54 r5dyn_56)
abbrev r5dyn_43 : AK := .seq (.reg [bi 114 .eql 112 16, m 113 114] [0,4,5,10,11,13,14,112,113,2000000]) (.cond (.t 113) r5dyn_45 r5dyn_52)
abbrev r5dyn_41 : AK := .seq (.reg [m 112 12] [0,4,5,10,11,13,14,112,2000000]) (.block 4 r5dyn_43)
def r5dyn_27 : AK := .seq r5dyn_41 (.mid r5dyn_28)
abbrev r5dyn_26 : AK := .seq (.reg [m 111 12, k 13 (ci 1), m 14 111] [0,4,5,10,11,12,13,14,2000000]) r5dyn_27
abbrev r5dyn_25 : AK := .seq (.reg [m 108 0, m 109 10, .cal (some 110) false 75110 113 [(.t 108), (.t 109)], m 12 110] [0,4,5,10,11,12,2000000]) r5dyn_26
abbrev r5dyn_60 : AK := .seq (.reg [m 95 11, .v 96 (.len false (.t 95)), m 97 4, m 98 5, b 99 .add 97 98, b 100 .lss 96 99, m 101 100, .gval 102 101 true false 75102 (.mov (.t 0)), .gval 103 101 true false 75103 (.nilc (.t 102)), .gval 104 101 true false 75104 (.fldA false 4 1 (.t 103)), .gval 105 101 true false 75105 (.ld false 1 (.t 104)), .gval 106 101 true false 75106 (.bin .eql (.t 105) (ci 0)), .v 107 (.pick (.t 101) (.t 106) (.c (.bool false)))] [0,4,5,10,11,107,2000000]) (.cond (.t 107) .skip (.exit 2))
abbrev r5dyn_23 : AK := .seq r5dyn_60 (.block 3 r5dyn_25)
abbrev r5dyn_L0 : AK := .loop r5dyn_23
def r5dyn_11 : AK := .seq (.block 2 r5dyn_L0) (.mid r5dyn_12)
abbrev r5dyn_10 : AK := .seq (.reg [.eff 94 false 75094 (.bsl 1 []), m 11 94] [0,4,5,10,11,2000000]) r5dyn_11
abbrev r5dyn_9 : AK := .seq (.reg [m 92 7, .cal (some 93) false 75093 111 [(.t 92)], m 10 93] [0,4,5,10,2000000]) r5dyn_10
abbrev r5dyn_64 : AK := .seq (.reg [k 2 (.c (.nilsl)), k 3 (.c (.nilsl))] [2,3,2000000]) .ret
abbrev r5dyn_62 : AK := .seq (.reg [m 87 0, .v 88 (.nilc (.t 87)), .v 89 (.fldA false 4 1 (.t 88)), .v 90 (.ld false 1 (.t 89)), bi 91 .neq 90 0] [0,4,5,7,91,2000000]) (.cond (.t 91) r5dyn_64 .skip)
abbrev r5dyn_8 : AK := .seq r5dyn_62 r5dyn_9
abbrev r5dyn_67 : AK := .reg [m 85 0, .cal (some 86) false 75086 82 [(.t 85), (ci 3)]] [0,4,5,7,2000000]
abbrev r5dyn_65 : AK := .seq (.reg [m 75 0, .v 76 (.nilc (.t 75)), .v 77 (.fldA false 4 1 (.t 76)), .v 78 (.ld false 1 (.t 77)), bi 79 .eql 78 0, m 80 79, .gval 81 80 true false 75081 (.mov (.t 7)), .gcal 82 80 true false 75082 114 [(.t 81)], .gval 83 80 true false 75083 (.bin .neq (.t 82) (ci 0)), .v 84 (.pick (.t 80) (.t 83) (.c (.bool false)))] [0,4,5,7,84,2000000]) (.cond (.t 84) r5dyn_67 .skip)
def r5dyn_7 : AK := .seq r5dyn_65 (.mid r5dyn_8)
abbrev r5dyn_72 : AK := .reg [m 65 9, bi 66 .add 65 1, m 9 66] [0,4,5,6,7,8,9,2000000]
abbrev r5dyn_74 : AK := .alt [u 75067 67 (.mov (.t 7)), m 68 8, m 69 9, .v 70 (.idxA 1 (.t 68) (.t 69)), u 75072 72 (.mov (.t 0))] [.v 71 (.ld false 1 (.t 70)), .cal (some 73) false 75073 83 [(.t 72), (ci 3)], .v 74 (.idxA 1 (.t 67) (.t 71)), .effN false 75000 (.st 1 (.t 74) (.t 73))] [.cal (some 73) false 75073 83 [(.t 72), (ci 3)], .v 71 (.ld false 1 (.t 70)), .v 74 (.idxA 1 (.t 67) (.t 71)), .effN false 75000 (.st 1 (.t 74) (.t 73))] [0,4,5,6,7,8,9,2000000]
abbrev r5dyn_71 : AK := .seq (.block 1 r5dyn_74) r5dyn_72
abbrev r5dyn_75 : AK := .seq (.reg [m 55 9, m 56 6, b 57 .lss 55 56, m 58 57, .gval 59 58 true false 75059 (.mov (.t 0)), .gval 60 58 true false 75060 (.nilc (.t 59)), .gval 61 58 true false 75061 (.fldA false 4 1 (.t 60)), .gval 62 58 true false 75062 (.ld false 1 (.t 61)), .gval 63 58 true false 75063 (.bin .eql (.t 62) (ci 0)), .v 64 (.pick (.t 58) (.t 63) (.c (.bool false)))] [0,4,5,6,7,8,9,64,2000000]) (.cond (.t 64) .skip (.exit 0))
abbrev r5dyn_70 : AK := .seq r5dyn_75 r5dyn_71
abbrev r5dyn_L2 : AK := .loop r5dyn_70
abbrev r5dyn_68 : AK := .seq (.reg [k 9 (ci 0)] [0,4,5,6,7,8,9,2000000]) (.block 0 r5dyn_L2)
abbrev r5dyn_6 : AK := .seq r5dyn_68 r5dyn_7
abbrev r5dyn_5 : AK := .seq (.reg [.eff 54 false 75054 (.bsl 1 [(ci 16), (ci 17), (ci 18), (ci 0), (ci 8), (ci 7), (ci 9), (ci 6), (ci 10), (ci 5), (ci 11), (ci 4), (ci 12), (ci 3), (ci 13), (ci 2), (ci 14), (ci 1), (ci 15)]), m 8 54] [0,4,5,6,7,8,2000000]) r5dyn_6
abbrev r5dyn_4 : AK := .seq (.reg [.eff 53 false 75053 (.mks 1 8 [.int .i64 0] (ci 19) (ci 19)), m 7 53] [0,4,5,6,7,2000000]) r5dyn_5
abbrev r5dyn_79 : AK := .reg [m 51 0, .cal (some 52) false 75052 82 [(.t 51), (ci 3)]] [0,4,5,6,2000000]
abbrev r5dyn_77 : AK := .seq (.reg [m 45 4, bi 46 .gtr 45 286, m 47 46, .gval 48 47 false false 75048 (.mov (.t 5)), .gval 49 47 false false 75049 (.bin .gtr (.t 48) (ci 30)), .v 50 (.pick (.t 47) (.c (.bool true)) (.t 49))] [0,4,5,6,50,2000000]) (.cond (.t 50) r5dyn_79 .skip)
def r5dyn_3 : AK := .seq r5dyn_77 (.mid r5dyn_4)
abbrev r5dyn_2 : AK := .seq (.reg [m 36 0, .cal (some 37) false 75037 83 [(.t 36), (ci 5)], bi 38 .add 37 257, m 39 0, .cal (some 40) false 75040 83 [(.t 39), (ci 5)], bi 41 .add 40 1, m 42 0, .cal (some 43) false 75043 83 [(.t 42), (ci 4)], bi 44 .add 43 4, m 4 38, m 5 41, m 6 44] [0,4,5,6,2000000]) r5dyn_3
abbrev r5dyn_82 : AK := .reg [m 34 0, .cal (some 35) false 75035 82 [(.t 34), (ci 6)]] [0,2000000]
abbrev r5dyn_80 : AK := .seq (.reg [m 16 0, .v 17 (.nilc (.t 16)), .v 18 (.fldA false 4 1 (.t 17)), .v 19 (.ld false 1 (.t 18)), bi 20 .eql 19 0, m 21 20, .gval 22 21 true true 75022 (.mov (.t 0)), .gval 23 21 true true 75023 (.nilc (.t 22)), .gval 24 21 true true 75024 (.fldA false 0 1 (.t 23)), .gval 25 21 true true 75025 (.ld false 1 (.t 24)), .gval 26 21 true true 75026 (.len false (.t 25)), .gval 27 21 true true 75027 (.mov (.t 0)), .gval 28 21 true true 75028 (.nilc (.t 27)), .gval 29 21 true true 75029 (.fldA false 1 1 (.t 28)), .gval 30 21 true true 75030 (.ld false 1 (.t 29)), .gval 31 21 true false 75031 (.bin .sub (.t 26) (.t 30)), .gval 32 21 true false 75032 (.bin .lss (.t 31) (ci 14)), .v 33 (.pick (.t 21) (.t 32) (.c (.bool false)))] [0,33,2000000]) (.cond (.t 33) r5dyn_82 .skip)
def r5dyn_1 : AK := .seq r5dyn_80 (.mid r5dyn_2)
abbrev r5dyn_0 : AK := .seq (.reg [k 2 (.c (.nilsl)), k 3 (.c (.nilsl))] [0,2000000]) r5dyn_1
abbrev r5dyn : AK := r5dyn_0
theorem r5dyn_fn : FnOK Tryz.prog 87 75000 1 r5dyn [.tmp 2, .tmp 3] := ⟨_, Tryz.func87, by kernel_rfl⟩
theorem r5dyn_spec {h : HP} {a0 : AV} {Post : HP → AV → List AV → Prop} (hp : HpN Tryz.prog r5dyn [.tmp 2, .tmp 3] 1 [(0, a0), (2000000, a0)] h Post) : Eng.Spec Tryz.prog 87 h [a0] Post := spec_fn r5dyn_fn rfl [(0, a0), (2000000, a0)] ⟨rfl, rfl, trivial⟩ hp
abbrev r5packed_19 : AK := .reg [m 123 16, bi 124 .add 123 1, m 16 124] [0,6,7,8,9,10,11,13,15,16,2000000,2000001,2000002]
abbrev r5packed_21 : AK := .reg [u 76125 125 (.mov (.t 0)), u 76126 126 (.mov (.t 0)), u 76127 127 (.nilc (.t 126)), u 76128 128 (.fldA false 2 1 (.t 127)), u 76129 129 (.ld false 1 (.t 128)), u 76130 130 (.mov (.t 0)), u 76131 131 (.nilc (.t 130)), u 76132 132 (.fldA false 2 1 (.t 131)), u 76133 133 (.ld false 1 (.t 132)), u 76134 134 (.len false (.t 133)), u 76135 135 (.mov (.t 15)), u 76136 136 (.bin .sub (.t 134) (.t 135)), .v 137 (.idxA 1 (.t 129) (.t 136)), .v 138 (.ld false 1 (.t 137)), .cal (some 139) false 76139 110 [(.t 125), (.t 138)]] [0,6,7,8,9,10,11,13,15,16,2000000,2000001,2000002]
abbrev r5packed_18 : AK := .seq (.block 3 r5packed_21) r5packed_19
abbrev r5packed_22 : AK := .seq (.reg [m 113 16, m 114 13, b 115 .lss 113 114, m 116 115, .gval 117 116 true false 76117 (.mov (.t 0)), .gval 118 116 true false 76118 (.nilc (.t 117)), .gval 119 116 true false 76119 (.fldA false 4 1 (.t 118)), .gval 120 116 true false 76120 (.ld false 1 (.t 119)), .gval 121 116 true false 76121 (.bin .eql (.t 120) (ci 0)), .v 122 (.pick (.t 116) (.t 121) (.c (.bool false)))] [0,6,7,8,9,10,11,13,15,16,122,2000000,2000001,2000002]) (.cond (.t 122) .skip (.exit 2))
abbrev r5packed_17 : AK := .seq r5packed_22 r5packed_18
abbrev r5packed_L1 : AK := .loop r5packed_17
abbrev r5packed_15 : AK := .seq (.reg [k 16 (ci 0)] [0,6,7,8,9,10,11,13,15,16,2000000,2000001,2000002]) (.block 2 r5packed_L1)
abbrev r5packed_26 : AK := .reg [m 111 0, .cal (some 112) false 76112 82 [(.t 111), (ci 3)]] [0,6,7,8,9,10,11,13,15,2000000,2000001,2000002]
abbrev r5packed_24 : AK := .seq (.reg [m 97 0, .v 98 (.nilc (.t 97)), .v 99 (.fldA false 4 1 (.t 98)), .v 100 (.ld false 1 (.t 99)), bi 101 .eql 100 0, m 102 101, .gval 103 102 true false 76103 (.mov (.t 15)), .gval 104 102 true false 76104 (.mov (.t 0)), .gval 105 102 true false 76105 (.nilc (.t 104)), .gval 106 102 true false 76106 (.fldA false 2 1 (.t 105)), .gval 107 102 true false 76107 (.ld false 1 (.t 106)), .gval 108 102 true false 76108 (.len false (.t 107)), .gval 109 102 true false 76109 (.bin .gtr (.t 103) (.t 108)), .v 110 (.pick (.t 102) (.t 109) (.c (.bool false)))] [0,6,7,8,9,10,11,13,15,110,2000000,2000001,2000002]) (.cond (.t 110) r5packed_26 .skip)
def r5packed_14 : AK := .seq r5packed_24 (.mid r5packed_15)
abbrev r5packed_27 : AK := .alt [u 76086 86 (.mov (.t 10)), u 76087 87 (.mov (.t 14)), u 76088 88 (.idxA 1 (.t 86) (.t 87)), u 76090 90 (.mov (.t 0)), u 76091 91 (.mov (.t 11)), u 76092 92 (.mov (.t 14)), u 76093 93 (.idxA 1 (.t 91) (.t 92)), u 76094 94 (.ld false 1 (.t 93))] [u 76089 89 (.ld false 1 (.t 88)), .cal (some 95) false 76095 83 [(.t 90), (.t 94)], b 96 .add 89 95, m 15 96] [.cal (some 95) false 76095 83 [(.t 90), (.t 94)], u 76089 89 (.ld false 1 (.t 88)), b 96 .add 89 95, m 15 96] [0,6,7,8,9,10,11,13,15,2000000,2000001,2000002]
def r5packed_13 : AK := .seq r5packed_27 (.mid r5packed_14)
abbrev r5packed_28 : AK := .seq (.reg [m 81 0, .v 82 (.nilc (.t 81)), .v 83 (.fldA false 4 1 (.t 82)), .v 84 (.ld false 1 (.t 83)), bi 85 .neq 84 0] [0,6,7,8,9,10,11,13,14,85,2000000,2000001,2000002]) (.cond (.t 85) .ret .skip)
abbrev r5packed_12 : AK := .seq r5packed_28 r5packed_13
abbrev r5packed_32 : AK := .reg [m 79 0, .cal (some 80) false 76080 82 [(.t 79), (ci 3)]] [0,6,7,8,9,10,11,13,14,2000000,2000001,2000002]
abbrev r5packed_30 : AK := .seq (.reg [m 70 0, .v 71 (.nilc (.t 70)), .v 72 (.fldA false 4 1 (.t 71)), .v 73 (.ld false 1 (.t 72)), bi 74 .eql 73 0, m 75 74, .gval 76 75 true false 76076 (.mov (.t 14)), .gval 77 75 true false 76077 (.bin .gtr (.t 76) (ci 29)), .v 78 (.pick (.t 75) (.t 77) (.c (.bool false)))] [0,6,7,8,9,10,11,13,14,78,2000000,2000001,2000002]) (.cond (.t 78) r5packed_32 .skip)
def r5packed_11 : AK := .seq r5packed_30 (.mid r5packed_12)
abbrev r5packed_10 : AK := .seq (.reg [m 67 0, m 68 7, .cal (some 69) false 76069 113 [(.t 67), (.t 68)], m 14 69] [0,6,7,8,9,10,11,13,14,2000000,2000001,2000002]) r5packed_11
abbrev r5packed_33 : AK := .alt [u 76054 54 (.mov (.t 8)), u 76055 55 (.mov (.t 12)), u 76056 56 (.bin .sub (.t 55) (ci 257)), u 76057 57 (.idxA 1 (.t 54) (.t 56)), u 76059 59 (.mov (.t 0)), u 76060 60 (.mov (.t 9)), u 76061 61 (.mov (.t 12)), u 76062 62 (.bin .sub (.t 61) (ci 257)), u 76063 63 (.idxA 1 (.t 60) (.t 62)), u 76064 64 (.ld false 1 (.t 63))] [u 76058 58 (.ld false 1 (.t 57)), .cal (some 65) false 76065 83 [(.t 59), (.t 64)], b 66 .add 58 65, m 13 66] [.cal (some 65) false 76065 83 [(.t 59), (.t 64)], u 76058 58 (.ld false 1 (.t 57)), b 66 .add 58 65, m 13 66] [0,6,7,8,9,10,11,13,2000000,2000001,2000002]
def r5packed_9 : AK := .seq r5packed_33 (.mid r5packed_10)
abbrev r5packed_36 : AK := .seq (.reg [m 52 0, .cal (some 53) false 76053 82 [(.t 52), (ci 3)]] [2000000,2000001,2000002]) .ret
abbrev r5packed_34 : AK := .seq (.reg [m 50 12, bi 51 .gtr 50 285] [0,6,7,8,9,10,11,12,51,2000000,2000001,2000002]) (.cond (.t 51) r5packed_36 .skip)
abbrev r5packed_8 : AK := .seq r5packed_34 r5packed_9
abbrev r5packed_39 : AK := .seq (.reg [m 46 0, m 47 12, .v 48 (.cvi .u8 (.t 47)), .cal (some 49) false 76049 110 [(.t 46), (.t 48)]] [0,6,7,8,9,10,11,2000000,2000001,2000002]) (.exit 1)
abbrev r5packed_37 : AK := .seq (.reg [m 44 12, bi 45 .lss 44 256] [0,6,7,8,9,10,11,12,45,2000000,2000001,2000002]) (.cond (.t 45) r5packed_39 .skip)
abbrev r5packed_7 : AK := .seq r5packed_37 r5packed_8
abbrev r5packed_40 : AK := .seq (.reg [m 35 0, .v 36 (.nilc (.t 35)), .v 37 (.fldA false 4 1 (.t 36)), .v 38 (.ld false 1 (.t 37)), bi 39 .neq 38 0, m 40 39, .gval 41 40 false false 76041 (.mov (.t 12)), .gval 42 40 false false 76042 (.bin .eql (.t 41) (ci 256)), .v 43 (.pick (.t 40) (.c (.bool true)) (.t 42))] [0,6,7,8,9,10,11,12,43,2000000,2000001,2000002]) (.cond (.t 43) .ret .skip)
abbrev r5packed_6 : AK := .seq r5packed_40 r5packed_7
abbrev r5packed_5 : AK := .seq (.reg [m 32 0, m 33 6, .cal (some 34) false 76034 113 [(.t 32), (.t 33)], m 12 34] [0,6,7,8,9,10,11,12,2000000,2000001,2000002]) r5packed_6
abbrev r5packed_42 : AK := .seq (.reg [m 27 0, .v 28 (.nilc (.t 27)), .v 29 (.fldA false 4 1 (.t 28)), .v 30 (.ld false 1 (.t 29)), bi 31 .eql 30 0] [0,6,7,8,9,10,11,31,2000000,2000001,2000002]) (.cond (.t 31) .skip (.exit 0))
abbrev r5packed_3 : AK := .seq r5packed_42 (.block 1 r5packed_5)
abbrev r5packed_L0 : AK := .loop r5packed_3
abbrev r5packed_1 : AK := .seq (.reg [.cal (some 22) false 76022 112 [], m 21 22, .v 23 (.ext (.t 21) 0), .v 24 (.ext (.t 21) 1), .v 25 (.ext (.t 21) 2), .v 26 (.ext (.t 21) 3), m 8 23, m 9 24, m 10 25, m 11 26] [0,6,7,8,9,10,11,2000000,2000001,2000002]) (.block 0 r5packed_L0)
abbrev r5packed_0 : AK := .seq (.reg [m 17 1, .cal (some 18) false 76018 111 [(.t 17)], m 19 2, .cal (some 20) false 76020 111 [(.t 19)], m 6 18, m 7 20] [0,6,7,2000000,2000001,2000002]) r5packed_1
abbrev r5packed : AK := r5packed_0
theorem r5packed_jn (P : Program) (E : Env) (Q : KQ) (st : St) :
 (vcW P E r5packed_14 Q st = vcW P E r5packed_24 (KQ.seq P E (.mid r5packed_15) Q) st) ∧
 (vcW P E r5packed_13 Q st = vcW P E r5packed_27 (KQ.seq P E (.mid r5packed_14) Q) st) ∧
 (vcW P E r5packed_11 Q st = vcW P E r5packed_30 (KQ.seq P E (.mid r5packed_12) Q) st) ∧
 (vcW P E r5packed_9 Q st = vcW P E r5packed_33 (KQ.seq P E (.mid r5packed_10) Q) st) :=
 ⟨rfl, rfl, rfl, rfl⟩
theorem r5packed_fn : FnOK Tryz.prog 86 76000 3 r5packed [] := ⟨_, Tryz.func86, by kernel_rfl⟩
theorem r5packed_spec {h : HP} {a0 a1 a2 : AV} {Post : HP → AV → List AV → Prop} (hp : HpN Tryz.prog r5packed [] 3 [(0, a0), (1, a1), (2, a2), (2000000, a0), (2000001, a1), (2000002, a2)] h Post) : Eng.Spec Tryz.prog 86 h [a0, a1, a2] Post := spec_fn r5packed_fn rfl [(0, a0), (1, a1), (2, a2), (2000000, a0), (2000001, a1), (2000002, a2)] ⟨rfl, rfl, rfl, rfl, rfl, rfl, trivial⟩ hp
abbrev r5fixed_4 : AK := .seq (.reg [m 36 2, m 37 3, m 0 36, m 1 37] [0,1]) .ret
abbrev r5fixed_9 : AK := .reg [m 31 6, bi 32 .add 31 1, m 6 32] [2,3,6]
abbrev r5fixed_11 : AK := .reg [m 33 3, .eff 34 false 77034 (.bsl 1 [(ci 5)]), .eff 35 false 77035 (.app 1 8 (.t 33) (.t 34)), m 3 35] [2,3,6]
abbrev r5fixed_8 : AK := .seq (.block 3 r5fixed_11) r5fixed_9
abbrev r5fixed_12 : AK := .seq (.reg [m 29 6, bi 30 .lss 29 32] [2,3,6,30]) (.cond (.t 30) .skip (.exit 2))
abbrev r5fixed_7 : AK := .seq r5fixed_12 r5fixed_8
abbrev r5fixed_L0 : AK := .loop r5fixed_7
abbrev r5fixed_5 : AK := .seq (.reg [k 6 (ci 0)] [2,3,6]) (.block 2 r5fixed_L0)
abbrev r5fixed_3 : AK := .seq r5fixed_5 r5fixed_4
abbrev r5fixed_18 : AK := .reg [m 11 4, bi 12 .add 11 1, m 4 12] [2,3,4]
abbrev r5fixed_23 : AK := .reg [m 25 2, m 26 5, .eff 27 false 77027 (.bsl 1 [(.t 26)]), .eff 28 false 77028 (.app 1 8 (.t 25) (.t 27)), m 2 28] [2,3,4]
abbrev r5fixed_26 : AK := .reg [k 5 (ci 7)] [2,3,4,5]
abbrev r5fixed_24 : AK := .seq (.reg [m 19 4, bi 20 .geq 19 256, m 21 20, .gval 22 21 true false 77022 (.mov (.t 4)), .gval 23 21 true false 77023 (.bin .lss (.t 22) (ci 280)), .v 24 (.pick (.t 21) (.t 23) (.c (.bool false)))] [2,3,4,5,24]) (.cond (.t 24) r5fixed_26 .skip)
abbrev r5fixed_22 : AK := .seq r5fixed_24 r5fixed_23
abbrev r5fixed_29 : AK := .reg [k 5 (ci 9)] [2,3,4,5]
abbrev r5fixed_27 : AK := .seq (.reg [m 13 4, bi 14 .geq 13 144, m 15 14, .gval 16 15 true false 77016 (.mov (.t 4)), .gval 17 15 true false 77017 (.bin .lss (.t 16) (ci 256)), .v 18 (.pick (.t 15) (.t 17) (.c (.bool false)))] [2,3,4,5,18]) (.cond (.t 18) r5fixed_29 .skip)
def r5fixed_21 : AK := .seq r5fixed_27 (.mid r5fixed_22)
abbrev r5fixed_20 : AK := .seq (.reg [k 5 (ci 8)] [2,3,4,5]) r5fixed_21
abbrev r5fixed_17 : AK := .seq (.block 1 r5fixed_20) r5fixed_18
abbrev r5fixed_30 : AK := .seq (.reg [m 9 4, bi 10 .lss 9 288] [2,3,4,10]) (.cond (.t 10) .skip (.exit 0))
abbrev r5fixed_16 : AK := .seq r5fixed_30 r5fixed_17
abbrev r5fixed_L1 : AK := .loop r5fixed_16
abbrev r5fixed_14 : AK := .seq (.reg [k 4 (ci 0)] [2,3,4]) (.block 0 r5fixed_L1)
abbrev r5fixed_2 : AK := .seq r5fixed_14 r5fixed_3
abbrev r5fixed_1 : AK := .seq (.reg [.eff 7 false 77007 (.bsl 1 []), .eff 8 false 77008 (.bsl 1 []), m 2 7, m 3 8] [2,3]) r5fixed_2
abbrev r5fixed_0 : AK := .seq (.reg [k 0 (.c (.nilsl)), k 1 (.c (.nilsl))] []) r5fixed_1
abbrev r5fixed : AK := r5fixed_0
theorem r5fixed_fn : FnOK Tryz.prog 85 77000 0 r5fixed [.tmp 0, .tmp 1] := ⟨_, Tryz.func85, by kernel_rfl⟩
theorem r5fixed_spec {h : HP} {Post : HP → AV → List AV → Prop} (hp : HpN Tryz.prog r5fixed [.tmp 0, .tmp 1] 0 [] h Post) : Eng.Spec Tryz.prog 85 h [] Post := spec_fn r5fixed_fn rfl [] trivial hp
abbrev r5lens_9 : AK := .seq (.reg [m 65 4, m 66 5, m 67 9, m 68 10, m 0 65, m 1 66, m 2 67, m 3 68] [0,1,2,3]) .ret
abbrev r5lens_14 : AK := .reg [m 46 11, bi 47 .add 46 1, m 11 47] [4,5,6,9,10,11]
abbrev r5lens_20 : AK := .reg [m 61 6, m 62 12, .v 63 (.bin .shl (ci 1) (.t 62)), b 64 .add 61 63, m 6 64] [4,5,6,9,10,11]
abbrev r5lens_19 : AK := .seq (.reg [m 57 10, m 58 12, .eff 59 false 78059 (.bsl 1 [(.t 58)]), .eff 60 false 78060 (.app 1 8 (.t 57) (.t 59)), m 10 60] [4,5,6,9,10,11,12]) r5lens_20
abbrev r5lens_18 : AK := .seq (.reg [m 53 9, m 54 6, .eff 55 false 78055 (.bsl 1 [(.t 54)]), .eff 56 false 78056 (.app 1 8 (.t 53) (.t 55)), m 9 56] [4,5,6,9,10,11,12]) r5lens_19
abbrev r5lens_23 : AK := .reg [m 50 11, bi 51 .quo 50 2, bi 52 .sub 51 1, m 12 52] [4,5,6,9,10,11,12]
abbrev r5lens_21 : AK := .seq (.reg [m 48 11, bi 49 .geq 48 4] [4,5,6,9,10,11,12,49]) (.cond (.t 49) r5lens_23 .skip)
def r5lens_17 : AK := .seq r5lens_21 (.mid r5lens_18)
abbrev r5lens_16 : AK := .seq (.reg [k 12 (ci 0)] [4,5,6,9,10,11,12]) r5lens_17
abbrev r5lens_13 : AK := .seq (.block 3 r5lens_16) r5lens_14
abbrev r5lens_24 : AK := .seq (.reg [m 44 11, bi 45 .lss 44 30] [4,5,6,9,10,11,45]) (.cond (.t 45) .skip (.exit 2))
abbrev r5lens_12 : AK := .seq r5lens_24 r5lens_13
abbrev r5lens_L0 : AK := .loop r5lens_12
abbrev r5lens_10 : AK := .seq (.reg [k 11 (ci 0)] [4,5,6,9,10,11]) (.block 2 r5lens_L0)
abbrev r5lens_8 : AK := .seq r5lens_10 r5lens_9
abbrev r5lens_7 : AK := .seq (.reg [k 6 (ci 1)] [4,5,6,9,10]) r5lens_8
abbrev r5lens_6 : AK := .seq (.reg [.eff 42 false 78042 (.bsl 1 []), .eff 43 false 78043 (.bsl 1 []), m 9 42, m 10 43] [4,5,9,10]) r5lens_7
abbrev r5lens_5 : AK := .seq (.reg [m 39 5, .eff 40 false 78040 (.bsl 1 [(ci 0)]), .eff 41 false 78041 (.app 1 8 (.t 39) (.t 40)), m 5 41] [4,5]) r5lens_6
abbrev r5lens_4 : AK := .seq (.reg [m 36 4, .eff 37 false 78037 (.bsl 1 [(ci 258)]), .eff 38 false 78038 (.app 1 8 (.t 36) (.t 37)), m 4 38] [4,5]) r5lens_5
abbrev r5lens_30 : AK := .reg [m 17 7, bi 18 .add 17 1, m 7 18] [4,5,6,7]
abbrev r5lens_36 : AK := .reg [m 32 6, m 33 8, .v 34 (.bin .shl (ci 1) (.t 33)), b 35 .add 32 34, m 6 35] [4,5,6,7]
abbrev r5lens_35 : AK := .seq (.reg [m 28 5, m 29 8, .eff 30 false 78030 (.bsl 1 [(.t 29)]), .eff 31 false 78031 (.app 1 8 (.t 28) (.t 30)), m 5 31] [4,5,6,7,8]) r5lens_36
abbrev r5lens_34 : AK := .seq (.reg [m 24 4, m 25 6, .eff 26 false 78026 (.bsl 1 [(.t 25)]), .eff 27 false 78027 (.app 1 8 (.t 24) (.t 26)), m 4 27] [4,5,6,7,8]) r5lens_35
abbrev r5lens_39 : AK := .reg [m 21 7, bi 22 .quo 21 4, bi 23 .sub 22 1, m 8 23] [4,5,6,7,8]
abbrev r5lens_37 : AK := .seq (.reg [m 19 7, bi 20 .geq 19 8] [4,5,6,7,8,20]) (.cond (.t 20) r5lens_39 .skip)
def r5lens_33 : AK := .seq r5lens_37 (.mid r5lens_34)
abbrev r5lens_32 : AK := .seq (.reg [k 8 (ci 0)] [4,5,6,7,8]) r5lens_33
abbrev r5lens_29 : AK := .seq (.block 1 r5lens_32) r5lens_30
abbrev r5lens_40 : AK := .seq (.reg [m 15 7, bi 16 .lss 15 28] [4,5,6,7,16]) (.cond (.t 16) .skip (.exit 0))
abbrev r5lens_28 : AK := .seq r5lens_40 r5lens_29
abbrev r5lens_L1 : AK := .loop r5lens_28
abbrev r5lens_26 : AK := .seq (.reg [k 7 (ci 0)] [4,5,6,7]) (.block 0 r5lens_L1)
abbrev r5lens_3 : AK := .seq r5lens_26 r5lens_4
abbrev r5lens_2 : AK := .seq (.reg [k 6 (ci 3)] [4,5,6]) r5lens_3
abbrev r5lens_1 : AK := .seq (.reg [.eff 13 false 78013 (.bsl 1 []), .eff 14 false 78014 (.bsl 1 []), m 4 13, m 5 14] [4,5]) r5lens_2
abbrev r5lens_0 : AK := .seq (.reg [k 0 (.c (.nilsl)), k 1 (.c (.nilsl)), k 2 (.c (.nilsl)), k 3 (.c (.nilsl))] []) r5lens_1
abbrev r5lens : AK := r5lens_0
theorem r5lens_fn : FnOK Tryz.prog 112 78000 0 r5lens [.tmp 0, .tmp 1, .tmp 2, .tmp 3] := ⟨_, Tryz.func112, by kernel_rfl⟩
theorem r5lens_spec {h : HP} {Post : HP → AV → List AV → Prop} (hp : HpN Tryz.prog r5lens [.tmp 0, .tmp 1, .tmp 2, .tmp 3] 0 [] h Post) : Eng.Spec Tryz.prog 112 h [] Post := spec_fn r5lens_fn rfl [] trivial hp
abbrev r5inflate_4 : AK := .seq (.reg [m 121 9, .v 122 (.nilc (.t 121)), .v 123 (.fldA false 4 1 (.t 122)), .v 124 (.ld false 1 (.t 123)), u 79006 6 (.mov (.c (.str []))), u 79007 7 (.mov (ci 0)), m 8 124] [6,7,8]) .ret
abbrev r5inflate_13 : AK := .seq (.reg [u 79110 110 (.mov (.t 9)), u 79111 111 (.nilc (.t 110)), u 79112 112 (.fldA false 2 1 (.t 111)), u 79113 113 (.ld false 1 (.t 112)), u 79114 114 (.bts (.t 113)), u 79115 115 (.mov (.t 9)), u 79116 116 (.nilc (.t 115)), u 79117 117 (.fldA false 1 1 (.t 116)), u 79118 118 (.ld false 1 (.t 117)), .cal (some 119) true 79119 88 [(.t 118)], u 79120 120 (.bin .quo (.t 119) (ci 8)), u 79006 6 (.mov (.t 114)), m 7 120, k 8 (ci 0)] [6,7,8]) .ret
abbrev r5inflate_11 : AK := .seq (.reg [m 101 9, .v 102 (.nilc (.t 101)), .v 103 (.fldA false 4 1 (.t 102)), .v 104 (.ld false 1 (.t 103)), bi 105 .eql 104 0, m 106 105, .gval 107 106 true false 79107 (.mov (.t 10)), .gval 108 106 true false 79108 (.bin .eql (.t 107) (ci 1)), .v 109 (.pick (.t 106) (.t 108) (.c (.bool false)))] [9,109]) (.cond (.t 109) r5inflate_13 .skip)
abbrev r5inflate_20 : AK := .reg [m 69 9, .cal (some 70) false 79070 84 [(.t 69)]] [9,10]
abbrev r5inflate_24 : AK := .reg [m 77 9, m 78 12, m 79 13, .cal (some 80) false 79080 86 [(.t 77), (.t 78), (.t 79)]] [9,10]
abbrev r5inflate_23 : AK := .seq (.reg [.cal (some 74) false 79074 85 [], m 73 74, .v 75 (.ext (.t 73) 0), .v 76 (.ext (.t 73) 1), m 12 75, m 13 76] [9,10,12,13]) r5inflate_24
abbrev r5inflate_30 : AK := .reg [m 93 9, m 94 14, m 95 15, .cal (some 96) false 79096 86 [(.t 93), (.t 94), (.t 95)]] [9,10]
abbrev r5inflate_28 : AK := .seq (.reg [m 88 9, .v 89 (.nilc (.t 88)), .v 90 (.fldA false 4 1 (.t 89)), .v 91 (.ld false 1 (.t 90)), bi 92 .eql 91 0] [9,10,14,15,92]) (.cond (.t 92) r5inflate_30 .skip)
abbrev r5inflate_27 : AK := .seq (.reg [m 84 9, .cal (some 85) false 79085 87 [(.t 84)], m 83 85, .v 86 (.ext (.t 83) 0), .v 87 (.ext (.t 83) 1), m 14 86, m 15 87] [9,10,14,15]) r5inflate_28
abbrev r5inflate_33 : AK := .reg [m 99 9, .cal (some 100) false 79100 82 [(.t 99), (ci 3)]] [9,10]
abbrev r5inflate_31 : AK := .seq (.reg [bi 98 .eql 66 3, m 97 98] [9,10,97]) (.cond (.t 97) r5inflate_33 .skip)
abbrev r5inflate_25 : AK := .seq (.reg [bi 82 .eql 66 2, m 81 82] [9,10,66,81]) (.cond (.t 81) r5inflate_27 r5inflate_31)
abbrev r5inflate_21 : AK := .seq (.reg [bi 72 .eql 66 1, m 71 72] [9,10,66,71]) (.cond (.t 71) r5inflate_23 r5inflate_25)
abbrev r5inflate_18 : AK := .seq (.reg [bi 68 .eql 66 0, m 67 68] [9,10,66,67]) (.cond (.t 67) r5inflate_20 r5inflate_21)
abbrev r5inflate_16 : AK := .seq (.reg [m 66 11] [9,10,66]) (.block 2 r5inflate_18)
abbrev r5inflate_14 : AK := .seq (.reg [m 61 9, .v 62 (.nilc (.t 61)), .v 63 (.fldA false 4 1 (.t 62)), .v 64 (.ld false 1 (.t 63)), bi 65 .eql 64 0] [9,10,11,65]) (.cond (.t 65) r5inflate_16 .skip)
def r5inflate_10 : AK := .seq r5inflate_14 (.mid r5inflate_11)
abbrev r5inflate_9 : AK := .seq (.reg [m 57 9, .cal (some 58) false 79058 83 [(.t 57), (ci 1)], m 59 9, .cal (some 60) false 79060 83 [(.t 59), (ci 2)], m 10 58, m 11 60] [9,10,11]) r5inflate_10
abbrev r5inflate_36 : AK := .reg [m 55 9, .cal (some 56) false 79056 82 [(.t 55), (ci 6)]] [9]
abbrev r5inflate_34 : AK := .seq (.reg [u 79044 44 (.mov (.t 9)), u 79045 45 (.nilc (.t 44)), u 79046 46 (.fldA false 0 1 (.t 45)), u 79047 47 (.ld false 1 (.t 46)), u 79048 48 (.len false (.t 47)), u 79049 49 (.mov (.t 9)), u 79050 50 (.nilc (.t 49)), u 79051 51 (.fldA false 1 1 (.t 50)), u 79052 52 (.ld false 1 (.t 51)), b 53 .sub 48 52, bi 54 .lss 53 3] [9,54]) (.cond (.t 54) r5inflate_36 .skip)
def r5inflate_8 : AK := .seq r5inflate_34 (.mid r5inflate_9)
abbrev r5inflate_37 : AK := .seq (.reg [m 39 9, .v 40 (.nilc (.t 39)), .v 41 (.fldA false 4 1 (.t 40)), .v 42 (.ld false 1 (.t 41)), bi 43 .eql 42 0] [9,43]) (.cond (.t 43) .skip (.exit 0))
abbrev r5inflate_6 : AK := .seq r5inflate_37 (.block 1 r5inflate_8)
abbrev r5inflate_L0 : AK := .loop r5inflate_6
abbrev r5inflate_3 : AK := .seq (.block 0 r5inflate_L0) r5inflate_4
abbrev r5inflate_2 : AK := .seq (.reg [m 32 0, m 33 1, .v 34 (.slcS (.t 32) (some (.t 33)) none), .cal (some 35) false 79035 81 [(.t 34)], m 36 2, .v 37 (.bld [.nilsl, .int .i64 0, .nilsl, .int .i64 0, .int .i64 0] [(0, 1, (.t 35)), (3, 1, (.t 36))]), .eff 38 false 79038 (.box 5 (.t 37)), m 9 38] [9]) r5inflate_3
abbrev r5inflate_41 : AK := .seq (.reg [k 6 (.c (.str [])), k 7 (ci 0), k 8 (ci 1)] [6,7,8]) .ret
abbrev r5inflate_39 : AK := .seq (.reg [m 16 1, bi 17 .lss 16 0, m 18 17, .gval 19 18 false false 79019 (.mov (.t 1)), .gval 20 18 false false 79020 (.mov (.t 0)), .gval 21 18 false false 79021 (.len true (.t 20)), .gval 22 18 false false 79022 (.bin .gtr (.t 19) (.t 21)), .v 23 (.pick (.t 18) (.c (.bool true)) (.t 22)), m 24 23, .gval 25 24 false false 79025 (.mov (.t 2)), .gval 26 24 false false 79026 (.bin .lss (.t 25) (ci 0)), .v 27 (.pick (.t 24) (.c (.bool true)) (.t 26)), m 28 27, .gval 29 28 false false 79029 (.mov (.t 2)), .gval 30 28 false false 79030 (.bin .gtr (.t 29) (ci 65536)), .v 31 (.pick (.t 28) (.c (.bool true)) (.t 30))] [0,1,2,31]) (.cond (.t 31) r5inflate_41 .skip)
abbrev r5inflate_1 : AK := .seq r5inflate_39 r5inflate_2
abbrev r5inflate_0 : AK := .seq (.reg [k 6 (.c (.str [])), k 7 (ci 0), k 8 (ci 0)] [0,1,2]) r5inflate_1
abbrev r5inflate : AK := r5inflate_0
theorem r5inflate_fn : FnOK Tryz.prog 58 79000 3 r5inflate [.tmp 6, .tmp 7, .tmp 8] := ⟨_, Tryz.func58, by kernel_rfl⟩
theorem r5inflate_spec {h : HP} {a0 a1 a2 : AV} {Post : HP → AV → List AV → Prop} (hp : HpN Tryz.prog r5inflate [.tmp 6, .tmp 7, .tmp 8] 3 [(0, a0), (1, a1), (2, a2)] h Post) : Eng.Spec Tryz.prog 58 h [a0, a1, a2] Post := spec_fn r5inflate_fn rfl [(0, a0), (1, a1), (2, a2)] ⟨rfl, rfl, rfl, trivial⟩ hp
abbrev fromlittle_3 : AK := .seq (.reg [m 21 3, m 2 21] [2]) .ret
abbrev fromlittle_9 : AK := .reg [bi 20 .add 8 1, m 8 20] [0,3,7,8]
abbrev fromlittle_12 : AK := .reg [m 11 3, m 12 0, m 13 4, .v 14 (.sidx (.t 12) (.t 13)), .v 15 (.cvi .u64 (.t 14)), m 16 4, .v 17 (.bin .mul (ci 8) (.t 16)), b 18 .shl 15 17, b 19 .or 11 18, m 3 19] [0,3,7,8]
abbrev fromlittle_11 : AK := .seq (.reg [m 10 8, m 4 10] [0,3,4,7,8]) fromlittle_12
abbrev fromlittle_8 : AK := .seq (.block 1 fromlittle_11) fromlittle_9
abbrev fromlittle_7 : AK := .seq (.cond (.t 9) .skip (.exit 0)) fromlittle_8
abbrev fromlittle_6 : AK := .seq (.reg [b 9 .lss 8 7] [0,3,7,8,9]) fromlittle_7
abbrev fromlittle_L0 : AK := .loop fromlittle_6
abbrev fromlittle_4 : AK := .seq (.reg [m 5 0, .v 6 (.len true (.t 5)), .v 7 (.mm false (.t 6) (ci 8)), k 8 (ci 0)] [0,3,7,8]) (.block 0 fromlittle_L0)
abbrev fromlittle_2 : AK := .seq fromlittle_4 fromlittle_3
abbrev fromlittle_1 : AK := .seq (.reg [k 3 (.c (.int .u64 0))] [0,3]) fromlittle_2
abbrev fromlittle_0 : AK := .seq (.reg [k 2 (.c (.int .u64 0))] [0]) fromlittle_1
abbrev fromlittle : AK := fromlittle_0
theorem fromlittle_fn : FnOK Tryz.prog 122 80000 1 fromlittle [.tmp 2] := ⟨_, Tryz.func122, by kernel_rfl⟩
theorem fromlittle_spec {h : HP} {a0 : AV} {Post : HP → AV → List AV → Prop} (hp : HpN Tryz.prog fromlittle [.tmp 2] 1 [(0, a0)] h Post) : Eng.Spec Tryz.prog 122 h [a0] Post := spec_fn fromlittle_fn rfl [(0, a0)] ⟨rfl, trivial⟩ hp
end Go.Proofs.YtjoefngnjoofeaaGreatDoor.Cod
namespace Go.Proofs.YtjoefngnjoofeaaGreatDoor.Pk
open Eng
set_option maxRecDepth 10000
def ST5 : Nat := 79038
def OUT5 : Nat := 73035
attribute [go_sem] ST5 OUT5
def stW5 (t : Bs) (most : Nat) (S : SS) : HP := [(ST5, .var [.ro 1 (bools (restB t 0)), .int .i64 S.p, .sl OUT5 0 S.out.length, .int .i64 most, .int .i64 S.err]), (OUT5, .arr 1 (S.out.map ub))]
structure OkS (t : Bs) (most : Nat) (S : SS) : Prop where
 tl : t.length ≤ 1000000
 ml : most ≤ 1000000
 pl : S.p ≤ 8 * t.length
 ol : S.out.length ≤ most
theorem OkS.mv {t : Bs} {most : Nat} {S S' : SS} (h : OkS t most S) (k : Mv t most S S') : OkS t most S' := ⟨h.tl, h.ml, k.q h.pl, k.o h.ol⟩
theorem bits_len (t : Bs) : (bools (restB t 0)).length = 8 * t.length := by rw [bools_len, rest_len]; omega
theorem rest_off (t : Bs) (p : Nat) : (restB t 0).drop p = restB t p := by
 apply List.ext_getElem?
 intro j
 rw [List.getElem?_drop]
 unfold restB
 rw [List.getElem?_map, List.getElem?_map]
 by_cases h : p + j < 8 * t.length
 ·rw [List.getElem?_range (by omega), List.getElem?_range (by omega)]
  simp only [Option.map_some, Nat.zero_add]
 ·rw [List.getElem?_eq_none (by simp; omega), List.getElem?_eq_none (by simp; omega)]; rfl
theorem r5fail_ok (t : Bs) (most : Nat) (S : SS) (e : Nat) : Eng.Spec Tryz.prog 82 (stW5 t most S) [.vptr ST5 0, .int .i64 e] (fun h' v ar => h' = stW5 t most (failS e S) ∧ v = .tup [] ∧ ar = [.vptr ST5 0, .int .i64 e]) := by
 refine Cod.r5fail_spec (fun E R hN hR => ?_)
 unfold failS at hR
 by_cases h : S.err = 0
 ·rw [if_pos h] at hR
  simp (disch := omega) only [go_sem, simprocAttr, stW5, h]
  exact hR.le (by simp (disch := omega) only [go_sem, simprocAttr, stW5]) ⟨rfl, rfl, rfl⟩
 ·rw [if_neg h] at hR
  have hi : ¬ ((S.err : Int) = 0) := by omega
  simp (disch := omega) only [go_sem, simprocAttr, stW5, hi]
  exact hR.le (by simp (disch := omega) only [go_sem, simprocAttr, stW5]) ⟨rfl, rfl, rfl⟩
theorem r5num_ok (t : Bs) (most : Nat) (S : SS) (h : OkS t most S) (n : Nat) (hn : n ≤ 31) : Eng.Spec Tryz.prog 83 (stW5 t most S) [.vptr ST5 0, .int .i64 n]
    (fun h' v ar => h' = stW5 t most (numS t n S).2 ∧ v = .int .i64 ((numS t n S).1 : Nat) ∧ ar = [.vptr ST5 0, .int .i64 n]) := by
 refine Cod.r5num_spec (fun E R hN hR => ?_)
 obtain ⟨h1, h2, h3, h4⟩ := h
 have hbl := bits_len t
 by_cases he : S.err = 0
 ·by_cases hl : 8 * t.length < S.p + n
  ·rw [num_no he hl] at hR
   simp (disch := omega) only [go_sem, simprocAttr, stW5, he, hbl]
   refine call_win (stW5 t most S) (r5fail_ok t most S 6) (by simp (disch := omega) only [go_sem, simprocAttr, stW5, he]) nofun ?_
   rintro h' v ar ⟨rfl, rfl, rfl⟩
   refine ⟨by simp (disch := omega) only [go_sem, simprocAttr, stW5], rfl, ?_⟩
   rw [fail_of he]
   simp (disch := omega) only [go_sem, simprocAttr, stW5]
   exact hR.le (by simp (disch := omega) only [go_sem, simprocAttr, stW5]) ⟨rfl, rfl, rfl⟩
  ·rw [num_ok he (by omega)] at hR
   have hnb := numB_at t S.p n (by omega)
   have hnl := num_lt t S.p n
   have hn2 : 2 ^ n ≤ 2 ^ 31 := Nat.pow_le_pow_right (by decide) hn
   have hr3 := r3number_ok ((restB t S.p).take n) (by rw [List.length_take]; omega)
   rw [hnb] at hr3
   have es : S.p + n - S.p = n := by omega
   simp (disch := omega) only [go_sem, simprocAttr, stW5, he, hbl, bools_sub, rest_off, es]
   refine call_ro hr3 rfl rfl ?_
   simp (disch := omega) only [go_sem, simprocAttr]
   exact hR.le (by simp (disch := omega) only [go_sem, simprocAttr, stW5]) ⟨rfl, rfl, rfl⟩
 ·rw [num_err he] at hR
  have hi : ¬ ((S.err : Int) = 0) := by omega
  simp (disch := omega) only [go_sem, simprocAttr, stW5, hi]
  exact hR.le (by simp (disch := omega) only [go_sem, simprocAttr, stW5]) ⟨rfl, rfl, rfl⟩
theorem r5sym_ok (t : Bs) (most : Nat) (S : SS) (h : OkS t most S) (l : List Nat) (hl : ∀ n ∈ l, n ≤ 15) (hll : l.length ≤ 320) : Eng.Spec Tryz.prog 113 (stW5 t most S) [.vptr ST5 0, .ro 1 (codesA (codesL l))]
    (fun h' v ar => h' = stW5 t most (symS t l S).2 ∧ v = .int .i64 ((symS t l S).1 : Nat) ∧ ar = [.vptr ST5 0, .ro 1 (codesA (codesL l))]) := by
 refine Cod.r5sym_spec (fun E R hN hR => ?_)
 obtain ⟨h1, h2, h3, h4⟩ := h
 have hbl := bits_len t
 by_cases he : S.err = 0
 ·have hcl : (codesL l).length = l.length := by simp [codesL]
  have hr4 := r4read_ok (codesL l) ((restB t S.p).take 16) (by omega) (fun c hc => by
   obtain ⟨s, _, rfl⟩ := List.mem_map.1 hc
   rw [code_len]
   have := len15 hl s
   omega) (by rw [List.length_take]; omega)
  rw [read_take hl] at hr4
  have hrb := read_bits (codesL l) (restB t S.p)
  rw [rest_len, hcl] at hrb
  have em : (restB t S.p).take (min (S.p + 16) (8 * t.length) - S.p) = (restB t S.p).take 16 := by
   by_cases hh : S.p + 16 ≤ 8 * t.length
   ·rw [Nat.min_eq_left hh, show S.p + 16 - S.p = 16 by omega]
   ·rw [Nat.min_eq_right (by omega), List.take_of_length_le (by rw [rest_len]; omega), List.take_of_length_le (by rw [rest_len]; omega)]
  have emi : min ((S.p : Int) + 16) ((8 * t.length : Nat) : Int) = ((min (S.p + 16) (8 * t.length) : Nat) : Int) := by omega
  by_cases hr : (readL (codesL l) (restB t S.p)).2.2 = 0
  ·rw [sym_ok he hr] at hR
   obtain ⟨g1, g2, g3⟩ := hrb hr
   rw [hr] at hr4
   generalize readL (codesL l) (restB t S.p) = rr at *
   simp (disch := omega) only [go_sem, simprocAttr, stW5, he, hbl, bools_sub, rest_off, emi, em]
   refine call_ro hr4 rfl rfl ?_
   simp (disch := omega) only [go_sem, simprocAttr]
   exact hR.le (by simp (disch := omega) only [go_sem, simprocAttr, stW5]) ⟨rfl, rfl, rfl⟩
  ·rw [sym_no he hr] at hR
   have hi : ¬ (((readL (codesL l) (restB t S.p)).2.2 : Int) = 0) := by omega
   generalize readL (codesL l) (restB t S.p) = rr at *
   simp (disch := omega) only [go_sem, simprocAttr, stW5, he, hbl, bools_sub, rest_off, emi, em]
   refine call_ro hr4 rfl rfl ?_
   simp (disch := omega) only [go_sem, simprocAttr, hi]
   refine call_win (stW5 t most S) (r5fail_ok t most S rr.2.2) (by simp (disch := omega) only [go_sem, simprocAttr, stW5, he]) nofun ?_
   rintro h' v ar ⟨rfl, rfl, rfl⟩
   refine ⟨by simp (disch := omega) only [go_sem, simprocAttr, stW5], rfl, ?_⟩
   rw [fail_of he]
   simp (disch := omega) only [go_sem, simprocAttr, stW5]
   exact hR.le (by simp (disch := omega) only [go_sem, simprocAttr, stW5]) ⟨rfl, rfl, rfl⟩
 ·rw [sym_err he] at hR
  have hi : ¬ ((S.err : Int) = 0) := by omega
  simp (disch := omega) only [go_sem, simprocAttr, stW5, hi]
  exact hR.le (by simp (disch := omega) only [go_sem, simprocAttr, stW5]) ⟨rfl, rfl, rfl⟩
theorem r5put_ok (t : Bs) (most : Nat) (S : SS) (h : OkS t most S) (c : UInt8) : Eng.Spec Tryz.prog 110 (stW5 t most S) [.vptr ST5 0, .int .u8 (c.toNat : Int)]
    (fun h' v ar => h' = stW5 t most (putS most c S) ∧ v = .tup [] ∧ ar = [.vptr ST5 0, .int .u8 (c.toNat : Int)]) := by
 refine Cod.r5put_spec (fun E R hN hR => ?_)
 obtain ⟨h1, h2, h3, h4⟩ := h
 unfold putS at hR
 have hc := c.toNat_lt
 by_cases he : S.err = 0
 ·rw [if_neg (by simpa using he)] at hR
  by_cases hf : most ≤ S.out.length
  ·rw [if_pos hf] at hR
   simp (disch := omega) only [go_sem, simprocAttr, stW5, he, Cod.r5put_jn]
   (repeat (first | refine gskip_of ?_ | refine gcskip_of ?_ | refine gopen_of ?_) <;> simp (disch := omega) only [go_sem, simprocAttr])
   refine call_win (stW5 t most S) (r5fail_ok t most S 2) (by simp (disch := omega) only [go_sem, simprocAttr, stW5, he]) nofun ?_
   rintro h' v ar ⟨rfl, rfl, rfl⟩
   refine ⟨by simp (disch := omega) only [go_sem, simprocAttr, stW5], rfl, ?_⟩
   rw [fail_of he]
   simp (disch := omega) only [go_sem, simprocAttr, stW5]
   refine vcW_mid hN ?_
   simp (disch := omega) only [go_sem, simprocAttr]
   exact hR.le (by simp (disch := omega) only [go_sem, simprocAttr, stW5]) ⟨rfl, rfl, rfl⟩
  ·rw [if_neg hf] at hR
   simp (disch := omega) only [go_sem, simprocAttr, stW5, he, Cod.r5put_jn]
   (repeat (first | refine gskip_of ?_ | refine gcskip_of ?_ | refine gopen_of ?_) <;> simp (disch := omega) only [go_sem, simprocAttr])
   refine vcW_mid hN ?_
   simp (disch := omega) only [go_sem, simprocAttr, he]
   refine hR.le ?_ ⟨rfl, rfl, rfl⟩
   simp (disch := omega) only [go_sem, simprocAttr, stW5, he]
   rw [UInt8.ofNat_toNat]
 ·rw [if_pos he] at hR
  have hi : ¬ ((S.err : Int) = 0) := by omega
  simp (disch := omega) only [go_sem, simprocAttr, stW5, hi, Cod.r5put_jn]
  (repeat (first | refine gskip_of ?_ | refine gcskip_of ?_ | refine gopen_of ?_) <;> simp (disch := omega) only [go_sem, simprocAttr, stW5, hi])
  refine vcW_mid hN ?_
  simp (disch := omega) only [go_sem, simprocAttr, hi]
  exact hR.le (by simp (disch := omega) only [go_sem, simprocAttr, stW5]) ⟨rfl, rfl, rfl⟩
theorem raw_succ (t : Bs) (most n : Nat) (S : SS) : rawS t most (n + 1) S = if S.err ≠ 0 then S else rawS t most n (putS most (UInt8.ofNat (numS t 8 S).1) (numS t 8 S).2) := rfl
theorem ok_num {t : Bs} {most n : Nat} {S : SS} (h : OkS t most S) : OkS t most (numS t n S).2 := h.mv mv_num
theorem ofn {c : Nat} (h : c < 256) : (UInt8.ofNat c).toNat = c := by rw [UInt8.toNat_ofNat']; omega
theorem r5stored_ok (t : Bs) (most : Nat) (S : SS) (h : OkS t most S) : Eng.Spec Tryz.prog 84 (stW5 t most S) [.vptr ST5 0]
    (fun h' v ar => h' = stW5 t most (storedS t most S) ∧ v = .tup [] ∧ ar = [.vptr ST5 0]) := by
 refine Cod.r5stored_spec (fun E R hN hR => ?_)
 unfold storedS at hR
 simp only at hR
 have hup := r3up_ok S.p (by have := h.pl; have := h.tl; omega)
 have h1 : OkS t most (upS S) := h.mv mv_up
 have hp1 : (upS S).p = upB S.p := rfl
 have ho1 : (upS S).out = S.out := rfl
 have he1 : (upS S).err = S.err := rfl
 simp (disch := omega) only [go_sem, simprocAttr, stW5]
 refine call_ro hup rfl rfl ?_
 simp (disch := omega) only [go_sem, simprocAttr]
 generalize hS1 : upS S = S1 at *
 rw [← hp1, ← ho1, ← he1]
 refine call_win (stW5 t most S1) (r5num_ok t most S1 h1 16 (by omega)) (by simp (disch := omega) only [go_sem, simprocAttr, stW5]) nofun ?_
 rintro h' v ar ⟨rfl, rfl, rfl⟩
 have h2 := ok_num (n := 16) h1
 have hn1 := numS_lt (t := t) (S := S1) (n := 16)
 generalize numS t 16 S1 = a at *
 refine ⟨by simp (disch := omega) only [go_sem, simprocAttr, stW5], rfl, ?_⟩
 simp (disch := omega) only [go_sem, simprocAttr, stW5]
 refine call_win (stW5 t most a.2) (r5num_ok t most a.2 h2 16 (by omega)) (by simp (disch := omega) only [go_sem, simprocAttr, stW5]) nofun ?_
 rintro h' v ar ⟨rfl, rfl, rfl⟩
 have h3 := ok_num (n := 16) h2
 have hn2 := numS_lt (t := t) (S := a.2) (n := 16)
 generalize numS t 16 a.2 = b at *
 refine ⟨by simp (disch := omega) only [go_sem, simprocAttr, stW5], rfl, ?_⟩
 simp (disch := omega) only [go_sem, simprocAttr, stW5]
 generalize hS4 : (if a.1 + b.1 ≠ 65535 then failS 3 b.2 else b.2) = S4 at hR
 have h4 : OkS t most S4 := by
  rw [← hS4]
  split
  ·exact h3.mv mv_fail
  ·exact h3
 refine vcW_cut hN (fun _ : Unit => ⟨[(0, .vptr 79038 0), (2, .int .i64 (a.1 : Nat)), (2000000, .vptr 79038 0)], stW5 t most S4⟩) (fun _ => True) (fun R1 hR1 => ?_) (fun _ _ => ?_)
 ·by_cases he : b.2.err = 0
  ·by_cases hsum : a.1 + b.1 = 65535
   ·rw [if_neg (by simpa using hsum)] at hS4
    have hsi : (a.1 : Int) + (b.1 : Int) = 65535 := by omega
    simp (disch := omega) only [go_sem, simprocAttr, he, hsi]
    (repeat (first | refine gskip_of ?_ | refine gcskip_of ?_ | refine gopen_of ?_) <;> simp (disch := omega) only [go_sem, simprocAttr, he, hsi])
    exact hR1 () _ trivial (.le (by rw [← hS4]; simp (disch := omega) only [go_sem, simprocAttr, stW5, he]))
   ·rw [if_pos hsum] at hS4
    have hsi : ¬ ((a.1 : Int) + (b.1 : Int) = 65535) := by omega
    simp (disch := omega) only [go_sem, simprocAttr, he]
    (repeat (first | refine gskip_of ?_ | refine gcskip_of ?_ | refine gopen_of ?_) <;> simp (disch := omega) only [go_sem, simprocAttr, he, hsi])
    refine call_win (stW5 t most b.2) (r5fail_ok t most b.2 3) (by simp (disch := omega) only [go_sem, simprocAttr, stW5, he]) nofun ?_
    rintro h' v ar ⟨rfl, rfl, rfl⟩
    refine ⟨by simp (disch := omega) only [go_sem, simprocAttr, stW5], rfl, ?_⟩
    rw [hS4]
    simp (disch := omega) only [go_sem, simprocAttr, stW5]
    exact hR1 () _ trivial (.le (by simp (disch := omega) only [go_sem, simprocAttr, stW5]))
  ·have hi : ¬ ((b.2.err : Int) = 0) := by omega
   have hS : S4 = b.2 := by rw [← hS4]; unfold failS; rw [if_neg he, ite_self]
   simp (disch := omega) only [go_sem, simprocAttr, hi]
   (repeat (first | refine gskip_of ?_ | refine gcskip_of ?_ | refine gopen_of ?_) <;> simp (disch := omega) only [go_sem, simprocAttr, hi])
   exact hR1 () _ trivial (.le (by rw [hS]; simp (disch := omega) only [go_sem, simprocAttr, stW5]))
 ·simp (disch := omega) only [go_sem, simprocAttr]
  refine vcW_loop hN (fun q : Nat × SS => ⟨[(0, .vptr 79038 0), (2, .int .i64 (a.1 : Nat)), (4, .int .i64 q.1), (2000000, .vptr 79038 0)], stW5 t most q.2⟩) (fun q => q.1 ≤ a.1 ∧ OkS t most q.2 ∧ rawS t most (a.1 - q.1) q.2 = rawS t most a.1 S4) (fun q => a.1 - q.1) (0, S4) (.le (by simp (disch := omega) only [go_sem, simprocAttr, stW5])) ⟨by omega, h4, rfl⟩ ?_
  rintro ⟨i, S⟩ R1 ⟨hi, hok, hraw⟩ hR1
  simp only at hi hok hraw
  rw [← hraw] at hR
  by_cases hlt : i < a.1
  ·obtain ⟨k, hk⟩ : ∃ k, a.1 - i = k + 1 := ⟨a.1 - i - 1, by omega⟩
   rw [hk, raw_succ] at hraw hR
   by_cases he : S.err = 0
   ·rw [if_neg (by simpa using he)] at hraw hR
    simp (disch := omega) only [go_sem, simprocAttr, stW5, he]
    (repeat (first | refine gskip_of ?_ | refine gcskip_of ?_ | refine gopen_of ?_) <;> simp (disch := omega) only [go_sem, simprocAttr, he])
    refine call_win (stW5 t most S) (r5num_ok t most S hok 8 (by omega)) (by simp (disch := omega) only [go_sem, simprocAttr, stW5, he]) nofun ?_
    rintro h' v ar ⟨rfl, rfl, rfl⟩
    have hok2 := ok_num (n := 8) hok
    have hn8 := numS_lt (t := t) (S := S) (n := 8)
    generalize numS t 8 S = c at *
    have hof := ofn hn8
    have hput := r5put_ok t most c.2 hok2 (UInt8.ofNat c.1)
    rw [hof] at hput
    refine ⟨by simp (disch := omega) only [go_sem, simprocAttr, stW5], rfl, ?_⟩
    simp (disch := omega) only [go_sem, simprocAttr, stW5]
    refine call_win (stW5 t most c.2) hput (by simp (disch := omega) only [go_sem, simprocAttr, stW5]) nofun ?_
    rintro h' v ar ⟨rfl, rfl, rfl⟩
    refine ⟨by simp (disch := omega) only [go_sem, simprocAttr, stW5], rfl, ?_⟩
    simp (disch := omega) only [go_sem, simprocAttr, stW5]
    exact hR1 (i + 1, putS most (UInt8.ofNat c.1) c.2) _ (by simp only; omega) ⟨by simp only; omega, hok2.mv mv_put, by simp only; rw [show a.1 - (i + 1) = k by omega]; exact hraw⟩ (.le (by simp (disch := omega) only [go_sem, simprocAttr, stW5]))
   ·rw [if_pos he] at hraw hR
    have hi2 : ¬ ((S.err : Int) = 0) := by omega
    simp (disch := omega) only [go_sem, simprocAttr, stW5]
    (repeat (first | refine gskip_of ?_ | refine gcskip_of ?_ | refine gopen_of ?_) <;> simp (disch := omega) only [go_sem, simprocAttr, hi2])
    exact hR.le (by simp (disch := omega) only [go_sem, simprocAttr, stW5]) ⟨rfl, rfl, rfl⟩
  ·rw [show a.1 - i = 0 by omega] at hR
   simp (disch := omega) only [go_sem, simprocAttr, stW5]
   (repeat (first | refine gskip_of ?_ | refine gcskip_of ?_ | refine gopen_of ?_) <;> simp (disch := omega) only [go_sem, simprocAttr])
   exact hR.le (by simp (disch := omega) only [go_sem, simprocAttr, stW5, rawS]) ⟨rfl, rfl, rfl⟩
end Go.Proofs.YtjoefngnjoofeaaGreatDoor.Pk
namespace Go.Proofs.YtjoefngnjoofeaaGreatDoor.Pk
open Eng
set_option maxRecDepth 10000
def upTo (f : Nat → Nat) (n : Nat) : List Nat := (List.range n).map f
theorem upTo_len (f : Nat → Nat) (n : Nat) : (upTo f n).length = n := by simp [upTo]
theorem upTo_succ (f : Nat → Nat) (n : Nat) : upTo f (n + 1) = upTo f n ++ [f n] := by simp [upTo, List.range_succ]
theorem upTo_zero (f : Nat → Nat) : upTo f 0 = [] := (rfl)
theorem upTo_get (f : Nat → Nat) {n i : Nat} (h : i < n) : (upTo f n).getD i 0 = f i := by simp [upTo, List.getD_eq_getElem?_getD, h]
theorem nats_take {xs : List Nat} : sub3 (nats xs) 0 xs.length = nats xs := by simp [sub3, nats, List.take_of_length_le]
def fixF (i : Nat) : Nat := if 256 ≤ i ∧ i < 280 then 7 else if 144 ≤ i ∧ i < 256 then 9 else 8
theorem fixL_eq : upTo fixF 288 = fixL := by decide +kernel
theorem fixD_eq : upTo (fun _ => 5) 32 = fixD := by decide +kernel
theorem fixL_ok : (∀ n ∈ fixL, n ≤ 15) ∧ fixL.length = 288 ∧ chkL fixL = true := by decide +kernel
theorem fixD_ok : (∀ n ∈ fixD, n ≤ 15) ∧ fixD.length = 32 ∧ chkL fixD = true := by decide +kernel
set_option maxHeartbeats 1000000 in
theorem r5fixed_ok : SpecR Tryz.prog 85 [] (.tup [.ro 1 (nats fixL), .ro 1 (nats fixD)]) := by
 refine Cod.r5fixed_spec (fun E R hN hR => ?_)
 simp (disch := omega) only [go_sem, simprocAttr]
 refine vcW_loop hN (fun i : Nat => ⟨[(2, .sl 77007 0 i), (3, .sl 77008 0 0), (4, .int .i64 i)], [(77007, .arr 1 (nats (upTo fixF i))), (77008, .arr 1 [])]⟩) (fun i => i ≤ 288) (fun i => 288 - i) 0 (.le (by simp (disch := omega) only [go_sem, simprocAttr, upTo_zero, nats_nil])) (by omega) ?_
 rintro i R1 hi hR1
 have hul := upTo_len fixF i
 have hnl := nats_len (upTo fixF i)
 by_cases hlt : i < 288
 ·have hus := upTo_succ fixF i
  simp (disch := omega) only [go_sem, simprocAttr]
  refine vcW_cut hN (fun _ : Unit => ⟨[(2, .sl 77007 0 i), (3, .sl 77008 0 0), (4, .int .i64 i), (5, .int .i64 (if 144 ≤ i ∧ i < 256 then 9 else 8 : Nat))], [(77007, .arr 1 (nats (upTo fixF i))), (77008, .arr 1 [])]⟩) (fun _ => True) (fun R2 hR2 => ?_) (fun _ _ => ?_)
  ·by_cases h1 : 144 ≤ i
   ·by_cases h2 : i < 256
    ·simp (disch := omega) only [go_sem, simprocAttr]
     (repeat (first | refine gskip_of ?_ | refine gcskip_of ?_ | refine gopen_of ?_) <;> simp (disch := omega) only [go_sem, simprocAttr])
     exact hR2 () _ trivial (.le (by rw [if_pos ⟨h1, h2⟩]; simp (disch := omega) only [go_sem, simprocAttr]))
    ·simp (disch := omega) only [go_sem, simprocAttr]
     (repeat (first | refine gskip_of ?_ | refine gcskip_of ?_ | refine gopen_of ?_) <;> simp (disch := omega) only [go_sem, simprocAttr])
     exact hR2 () _ trivial (.le (by rw [if_neg (by omega)]; simp (disch := omega) only [go_sem, simprocAttr]))
   ·simp (disch := omega) only [go_sem, simprocAttr]
    (repeat (first | refine gskip_of ?_ | refine gcskip_of ?_ | refine gopen_of ?_) <;> simp (disch := omega) only [go_sem, simprocAttr])
    exact hR2 () _ trivial (.le (by rw [if_neg (by omega)]; simp (disch := omega) only [go_sem, simprocAttr]))
  ·by_cases h1 : 256 ≤ i
   ·by_cases h2 : i < 280
    ·have hf : fixF i = 7 := if_pos ⟨h1, h2⟩
     rw [hf] at hus
     simp (disch := omega) only [go_sem, simprocAttr, nats_cells, nats_sub, take_all]
     exact hR1 (i + 1) _ (by omega) (by omega) (.le (by rw [hus, ← nats_app]; simp (disch := omega) only [go_sem, simprocAttr]))
    ·have hf : fixF i = 8 := by unfold fixF; rw [if_neg (by omega), if_neg (by omega)]
     rw [hf] at hus
     rw [if_neg (by omega)]
     simp (disch := omega) only [go_sem, simprocAttr, nats_cells, nats_sub, take_all]
     exact hR1 (i + 1) _ (by omega) (by omega) (.le (by rw [hus, ← nats_app]; simp (disch := omega) only [go_sem, simprocAttr]))
   ·have hf : fixF i = if 144 ≤ i ∧ i < 256 then 9 else 8 := by unfold fixF; rw [if_neg (by omega)]
    rw [hf] at hus
    simp (disch := omega) only [go_sem, simprocAttr]
    (repeat (first | refine gskip_of ?_ | refine gcskip_of ?_ | refine gopen_of ?_) <;> simp (disch := omega) only [go_sem, simprocAttr, nats_cells, nats_sub, take_all])
    exact hR1 (i + 1) _ (by omega) (by omega) (.le (by rw [hus, ← nats_app]; simp (disch := omega) only [go_sem, simprocAttr]))
 ·obtain rfl : i = 288 := by omega
  simp (disch := omega) only [go_sem, simprocAttr]
  refine vcW_loop hN (fun i : Nat => ⟨[(2, .sl 77007 0 288), (3, .sl 77008 0 i), (6, .int .i64 i)], [(77007, .arr 1 (nats (upTo fixF 288))), (77008, .arr 1 (nats (upTo (fun _ => 5) i)))]⟩) (fun i => i ≤ 32) (fun i => 32 - i) 0 (.le (by simp (disch := omega) only [go_sem, simprocAttr, upTo_zero, nats_nil])) (by omega) ?_
  rintro i R2 hi hR2
  have hul2 := upTo_len (fun _ => 5) i
  have hnl2 := nats_len (upTo (fun _ => 5) i)
  by_cases hlt : i < 32
  ·have hus := upTo_succ (fun _ => 5) i
   simp (disch := omega) only [go_sem, simprocAttr, nats_cells, nats_sub, take_all]
   exact hR2 (i + 1) _ (by omega) (by omega) (.le (by rw [hus, ← nats_app]; simp (disch := omega) only [go_sem, simprocAttr]))
  ·obtain rfl : i = 32 := by omega
   rw [fixL_eq] at *
   rw [fixD_eq] at *
   have e1 : sub3 (nats fixL) 0 288 = nats fixL := by rw [← fixL_ok.2.1]; exact nats_take
   have e2 : sub3 (nats fixD) 0 32 = nats fixD := by rw [← fixD_ok.2.1]; exact nats_take
   simp (disch := omega) only [go_sem, simprocAttr]
   refine hR.wk (h' := []) (r' := .tup [.ro 1 (nats fixL), .ro 1 (nats fixD)]) (ar' := []) rfl (.frz 77007 (.frz 77008 (.le (by simp (disch := omega) only [go_sem, simprocAttr, e1, e2])))) ⟨rfl, rfl⟩
def lenN (i : Nat) : Nat := if i < 8 then 3 + i else 3 + (4 + i % 4) * 2 ^ (i / 4 - 1)
def lenK (i : Nat) : Nat := if i < 8 then 0 else i / 4 - 1
def disN (i : Nat) : Nat := if i < 4 then 1 + i else 1 + (2 + i % 2) * 2 ^ (i / 2 - 1)
def disK (i : Nat) : Nat := if i < 4 then 0 else i / 2 - 1
theorem len_tab : ∀ i, i < 28 → lenN (i + 1) = lenN i + 2 ^ lenK i ∧ lenN i = (lenB i).1 ∧ lenK i = (lenB i).2 ∧ lenN i ≤ 300 ∧ lenK i ≤ 8 := by decide +kernel
theorem dis_tab : ∀ i, i < 30 → disN (i + 1) = disN i + 2 ^ disK i ∧ disN i = (disB i).1 ∧ disK i = (disB i).2 ∧ disN i ≤ 40000 ∧ disK i ≤ 15 ∧ 1 ≤ disN i := by decide +kernel
def lenT1 : List Nat := upTo (fun i => (lenB i).1) 29
def lenT2 : List Nat := upTo (fun i => (lenB i).2) 29
def disT1 : List Nat := upTo (fun i => (disB i).1) 30
def disT2 : List Nat := upTo (fun i => (disB i).2) 30
theorem len_tabs : upTo lenN 28 ++ [258] = lenT1 ∧ upTo lenK 28 ++ [0] = lenT2 ∧ upTo disN 30 = disT1 ∧ upTo disK 30 = disT2 := by decide +kernel
theorem one_shl (k : Nat) (h : k ≤ 30) : IntKind.i64.wrap (1 * 2 ^ min k 64) = ((2 ^ k : Nat) : Int) := by
 have hk : 2 ^ k ≤ 2 ^ 30 := Nat.pow_le_pow_right (by decide) h
 rw [Nat.min_eq_left (by omega), show ((1 : Int) * 2 ^ k) = ((2 ^ k : Nat) : Int) by rw [Int.one_mul]; push_cast; rfl]
 generalize 2 ^ k = q at hk ⊢
 exact wrap_id (by omega)
set_option maxHeartbeats 2000000 in
theorem r5lens_ok : SpecR Tryz.prog 112 [] (.tup [.ro 1 (nats lenT1), .ro 1 (nats lenT2), .ro 1 (nats disT1), .ro 1 (nats disT2)]) := by
 refine Cod.r5lens_spec (fun E R hN hR => ?_)
 simp (disch := omega) only [go_sem, simprocAttr]
 refine vcW_loop hN (fun i : Nat => ⟨[(4, .sl 78013 0 i), (5, .sl 78014 0 i), (6, .int .i64 (lenN i : Nat)), (7, .int .i64 i)], [(78013, .arr 1 (nats (upTo lenN i))), (78014, .arr 1 (nats (upTo lenK i)))]⟩) (fun i => i ≤ 28) (fun i => 28 - i) 0 (.le (by simp (disch := omega) only [go_sem, simprocAttr, upTo_zero, nats_nil]; rfl)) (by omega) ?_
 rintro i R1 hi hR1
 have hul := upTo_len lenN i
 have hul2 := upTo_len lenK i
 have hnl := nats_len (upTo lenN i)
 have hnl2 := nats_len (upTo lenK i)
 by_cases hlt : i < 28
 ·obtain ⟨t1, _, _, t4, t5⟩ := len_tab i hlt
  have hus := upTo_succ lenN i
  have hus2 := upTo_succ lenK i
  have hsh := one_shl (lenK i) (by omega)
  have hpk : 2 ^ lenK i ≤ 2 ^ 8 := Nat.pow_le_pow_right (by decide) t5
  simp (disch := omega) only [go_sem, simprocAttr]
  refine vcW_cut hN (fun _ : Unit => ⟨[(4, .sl 78013 0 i), (5, .sl 78014 0 i), (6, .int .i64 (lenN i : Nat)), (7, .int .i64 i), (8, .int .i64 (lenK i : Nat))], [(78013, .arr 1 (nats (upTo lenN i))), (78014, .arr 1 (nats (upTo lenK i)))]⟩) (fun _ => True) (fun R2 hR2 => ?_) (fun _ _ => ?_)
  ·by_cases h1 : 8 ≤ i
   ·have hk : lenK i = i / 4 - 1 := if_neg (by omega)
    have e4 : (i : Int) / 4 - 1 = ((i / 4 - 1 : Nat) : Int) := by omega
    simp (disch := omega) only [go_sem, simprocAttr, e4]
    exact hR2 () _ trivial (.le (by rw [hk]; simp (disch := omega) only [go_sem, simprocAttr]))
   ·have hk : lenK i = 0 := if_pos (by omega)
    simp (disch := omega) only [go_sem, simprocAttr]
    exact hR2 () _ trivial (.le (by rw [hk]; simp (disch := omega) only [go_sem, simprocAttr]))
  ·simp (disch := omega) only [go_sem, simprocAttr, nats_cells, nats_sub, take_all, hsh]
   exact hR1 (i + 1) _ (by omega) (by omega) (.le (by rw [hus, hus2, ← nats_app, ← nats_app, t1]; simp (disch := omega) only [go_sem, simprocAttr]))
 ·obtain rfl : i = 28 := by omega
  obtain ⟨w1, w2, w3, w4⟩ := len_tabs
  have hl1 : lenT1.length = 29 := upTo_len _ _
  have hl2 : lenT2.length = 29 := upTo_len _ _
  simp (disch := omega) only [go_sem, simprocAttr, nats_cells, nats_sub, take_all]
  rw [show (AV.int .i64 258) = .int .i64 ((258 : Nat) : Int) from rfl, show (AV.int .i64 0) = .int .i64 ((0 : Nat) : Int) from rfl, nats_app, nats_app, w1, w2]
  have hn1 := nats_len lenT1
  have hn2 := nats_len lenT2
  refine vcW_loop hN (fun i : Nat => ⟨[(4, .sl 78013 0 29), (5, .sl 78014 0 29), (6, .int .i64 (disN i : Nat)), (9, .sl 78042 0 i), (10, .sl 78043 0 i), (11, .int .i64 i)], [(78013, .arr 1 (nats lenT1)), (78014, .arr 1 (nats lenT2)), (78042, .arr 1 (nats (upTo disN i))), (78043, .arr 1 (nats (upTo disK i)))]⟩) (fun i => i ≤ 30) (fun i => 30 - i) 0 (.le (by simp (disch := omega) only [go_sem, simprocAttr, upTo_zero, nats_nil]; rfl)) (by omega) ?_
  rintro i R2 hi hR2
  have hul := upTo_len disN i
  have hul2 := upTo_len disK i
  have hnl := nats_len (upTo disN i)
  have hnl2 := nats_len (upTo disK i)
  by_cases hlt : i < 30
  ·obtain ⟨t1, _, _, t4, t5, _⟩ := dis_tab i hlt
   have hus := upTo_succ disN i
   have hus2 := upTo_succ disK i
   have hsh := one_shl (disK i) (by omega)
   have hpk : 2 ^ disK i ≤ 2 ^ 15 := Nat.pow_le_pow_right (by decide) t5
   simp (disch := omega) only [go_sem, simprocAttr]
   refine vcW_cut hN (fun _ : Unit => ⟨[(4, .sl 78013 0 29), (5, .sl 78014 0 29), (6, .int .i64 (disN i : Nat)), (9, .sl 78042 0 i), (10, .sl 78043 0 i), (11, .int .i64 i), (12, .int .i64 (disK i : Nat))], [(78013, .arr 1 (nats lenT1)), (78014, .arr 1 (nats lenT2)), (78042, .arr 1 (nats (upTo disN i))), (78043, .arr 1 (nats (upTo disK i)))]⟩) (fun _ => True) (fun R3 hR3 => ?_) (fun _ _ => ?_)
   ·by_cases h1 : 4 ≤ i
    ·have hk : disK i = i / 2 - 1 := if_neg (by omega)
     have e4 : (i : Int) / 2 - 1 = ((i / 2 - 1 : Nat) : Int) := by omega
     simp (disch := omega) only [go_sem, simprocAttr, e4]
     exact hR3 () _ trivial (.le (by rw [hk]; simp (disch := omega) only [go_sem, simprocAttr]))
    ·have hk : disK i = 0 := if_pos (by omega)
     simp (disch := omega) only [go_sem, simprocAttr]
     exact hR3 () _ trivial (.le (by rw [hk]; simp (disch := omega) only [go_sem, simprocAttr]))
   ·simp (disch := omega) only [go_sem, simprocAttr, nats_cells, nats_sub, take_all, hsh]
    exact hR2 (i + 1) _ (by omega) (by omega) (.le (by rw [hus, hus2, ← nats_app, ← nats_app, t1]; simp (disch := omega) only [go_sem, simprocAttr]))
  ·obtain rfl : i = 30 := by omega
   rw [w3] at *
   rw [w4] at *
   have e1 : sub3 (nats lenT1) 0 29 = nats lenT1 := by rw [← hl1]; exact nats_take
   have e2 : sub3 (nats lenT2) 0 29 = nats lenT2 := by rw [← hl2]; exact nats_take
   have e3 : sub3 (nats disT1) 0 30 = nats disT1 := by rw [← hul]; exact nats_take
   have e4 : sub3 (nats disT2) 0 30 = nats disT2 := by rw [← hul2]; exact nats_take
   simp (disch := omega) only [go_sem, simprocAttr]
   exact hR.wk (h' := []) (r' := .tup [.ro 1 (nats lenT1), .ro 1 (nats lenT2), .ro 1 (nats disT1), .ro 1 (nats disT2)]) (ar' := []) rfl (.frz 78013 (.frz 78014 (.frz 78042 (.frz 78043 (.le (by simp (disch := omega) only [go_sem, simprocAttr, e1, e2, e3, e4])))))) ⟨rfl, rfl⟩
theorem back_succ (most back n : Nat) (S : SS) : backS most back (n + 1) S = if S.err ≠ 0 then S else backS most back n (putS most (S.out.getD (S.out.length - back) 0) S) := rfl
theorem back_err {most back : Nat} {S : SS} (h : S.err ≠ 0) : ∀ n, backS most back n S = S
 | 0 => rfl
 | n + 1 => by rw [back_succ, if_pos h]
theorem packS_err {t : Bs} {most : Nat} {l d : List Nat} {S : SS} (h : S.err ≠ 0) : packS t most l d S = S := pack_err _ h
theorem packS_ok {t : Bs} {most : Nat} {l d : List Nat} {S : SS} (h0 : S.p ≤ 8 * t.length) (h : S.err = 0) : packS t most l d S = if (stepS t most l d S).1 then (stepS t most l d S).2 else packS t most l d (stepS t most l d S).2 := by
 rw [pack_eq h0, if_neg (by simpa using h)]
def msS (t : Bs) (S : SS) : Nat := if S.err = 0 then 8 * t.length + 1 - S.p else 0
theorem ms_lt {t : Bs} {most : Nat} {S S' : SS} (h : OkS t most S) (he : S.err = 0) (k : S'.err ≠ 0 ∨ S.p < S'.p) : msS t S' < msS t S := by
 have := h.pl
 unfold msS
 rw [if_pos he]
 split
 ·rcases k with k | k
  ·exact absurd (by assumption) k
  ·omega
 ·omega
theorem getD_out (S : SS) (i : Nat) (h : i < S.out.length) : nth (S.out.map ub) i = .int .u8 ((S.out.getD i 0).toNat : Int) := by
 simp [nth, ub, List.getD_eq_getElem?_getD, h]
set_option maxHeartbeats 4000000 in
theorem r5packed_ok (t : Bs) (most : Nat) (S0 : SS) (h0 : OkS t most S0) (l d : List Nat) (hl : ∀ n ∈ l, n ≤ 15) (hll : l.length ≤ 320) (hd : ∀ n ∈ d, n ≤ 15) (hdl : d.length ≤ 320) :
    Eng.Spec Tryz.prog 86 (stW5 t most S0) [.vptr ST5 0, .ro 1 (nats l), .ro 1 (nats d)] (fun h' v ar => h' = stW5 t most (packS t most l d S0) ∧ v = .tup [] ∧ ar = [.vptr ST5 0, .ro 1 (nats l), .ro 1 (nats d)]) := by
 refine Cod.r5packed_spec (fun E R hN hR => ?_)
 have hc1 := r4codes_ok l hl hll
 have hc2 := r4codes_ok d hd hdl
 have hl1 : lenT1.length = 29 := upTo_len _ _
 have hl2 : lenT2.length = 29 := upTo_len _ _
 have hl3 : disT1.length = 30 := upTo_len _ _
 have hl4 : disT2.length = 30 := upTo_len _ _
 have hn1 := nats_len lenT1
 have hn2 := nats_len lenT2
 have hn3 := nats_len disT1
 have hn4 := nats_len disT2
 simp (disch := omega) only [go_sem, simprocAttr]
 refine call_ro hc1 rfl rfl ?_
 simp (disch := omega) only [go_sem, simprocAttr]
 refine call_ro hc2 rfl rfl ?_
 simp (disch := omega) only [go_sem, simprocAttr]
 refine call_ro r5lens_ok rfl rfl ?_
 simp (disch := omega) only [go_sem, simprocAttr]
 generalize hF : packS t most l d S0 = F at hR
 have fin : ∀ S1, S1 = F → R (stW5 t most S1) (.tup []) [.vptr 79038 0, .ro 1 (nats l), .ro 1 (nats d)] := fun S1 e => hR.le (by rw [e]; simp (disch := omega) only [go_sem, simprocAttr, stW5]) ⟨rfl, rfl, rfl⟩
 refine vcW_loop hN (fun S : SS => ⟨[(0, .vptr 79038 0), (6, .ro 1 (codesA (codesL l))), (7, .ro 1 (codesA (codesL d))), (8, .ro 1 (nats lenT1)), (9, .ro 1 (nats lenT2)), (10, .ro 1 (nats disT1)), (11, .ro 1 (nats disT2)), (2000000, .vptr 79038 0), (2000001, .ro 1 (nats l)), (2000002, .ro 1 (nats d))], stW5 t most S⟩)
  (fun S => OkS t most S ∧ packS t most l d S = F) (fun S => msS t S) S0 (.le (by simp (disch := omega) only [go_sem, simprocAttr, stW5])) ⟨h0, hF⟩ ?_
 rintro S R1 ⟨hok, hpk⟩ hR1
 by_cases he : S.err = 0
 ·have hpk0 := hpk
  rw [packS_ok hok.pl he] at hpk
  have hsu := step_up (t := t) (most := most) (l := l) (d := d) he
  have hms := mv_step (t := t) (most := most) (l := l) (d := d) (S := S)
  have hst : stepS t most l d S = if (symS t l S).2.err ≠ 0 then (true, (symS t l S).2) else if (symS t l S).1 = 256 then (true, (symS t l S).2) else if (symS t l S).1 < 256 then (false, putS most (UInt8.ofNat (symS t l S).1) (symS t l S).2) else (false, repS t most d (symS t l S).1 (symS t l S).2) := rfl
  have hsl := sym_up (t := t) (l := l) he
  simp (disch := omega) only [go_sem, simprocAttr, stW5, he]
  refine call_win (stW5 t most S) (r5sym_ok t most S hok l hl hll) (by simp (disch := omega) only [go_sem, simprocAttr, stW5, he]) nofun ?_
  rintro h' v ar ⟨rfl, rfl, rfl⟩
  have hok2 : OkS t most (symS t l S).2 := hok.mv mv_sym
  generalize symS t l S = a at *
  refine ⟨by simp (disch := omega) only [go_sem, simprocAttr, stW5], rfl, ?_⟩
  by_cases hae : a.2.err = 0
  ·obtain ⟨hup, hlt⟩ := hsl hae
   rw [if_neg (by simpa using hae)] at hst
   by_cases h256 : a.1 = 256
   ·rw [if_pos h256] at hst
    rw [hst] at hpk
    simp only [if_true] at hpk
    simp (disch := omega) only [go_sem, simprocAttr, stW5, hae, h256]
    (repeat (first | refine gskip_of ?_ | refine gcskip_of ?_ | refine gopen_of ?_) <;> simp (disch := omega) only [go_sem, simprocAttr, hae, h256])
    have := fin a.2 hpk
    simp only [stW5, hae] at this
    simp (disch := omega) only [go_sem, simprocAttr] at this
    exact this
   ·rw [if_neg h256] at hst
    have hi256 : ¬ ((a.1 : Int) = 256) := by omega
    by_cases hlit : a.1 < 256
    ·rw [if_pos hlit] at hst
     rw [hst] at hpk hsu
     simp only [Bool.false_eq_true, if_false] at hpk hsu
     have hput := r5put_ok t most a.2 hok2 (UInt8.ofNat a.1)
     rw [ofn hlit] at hput
     simp (disch := omega) only [go_sem, simprocAttr, stW5, hae]
     (repeat (first | refine gskip_of ?_ | refine gcskip_of ?_ | refine gopen_of ?_) <;> simp (disch := omega) only [go_sem, simprocAttr, hae, hi256])
     refine call_win (stW5 t most a.2) hput (by simp (disch := omega) only [go_sem, simprocAttr, stW5, hae]) nofun ?_
     rintro h' v ar ⟨rfl, rfl, rfl⟩
     refine ⟨by simp (disch := omega) only [go_sem, simprocAttr, stW5], rfl, ?_⟩
     simp (disch := omega) only [go_sem, simprocAttr, stW5]
     refine hR1 (putS most (UInt8.ofNat a.1) a.2) _ (ms_lt hok he ?_) ⟨hok2.mv mv_put, hpk⟩ (.le (by simp (disch := omega) only [go_sem, simprocAttr, stW5]))
     by_cases hpe : (putS most (UInt8.ofNat a.1) a.2).err = 0
     ·exact .inr (hsu hpe)
     ·exact .inl hpe
    ·rw [if_neg hlit] at hst
     rw [hst] at hpk hsu
     simp only [Bool.false_eq_true, if_false] at hpk hsu
     have next : ∀ S' st', OkS t most S' → S' = repS t most d a.1 a.2 → Wk st' ⟨[(0, .vptr 79038 0), (6, .ro 1 (codesA (codesL l))), (7, .ro 1 (codesA (codesL d))), (8, .ro 1 (nats lenT1)), (9, .ro 1 (nats lenT2)), (10, .ro 1 (nats disT1)), (11, .ro 1 (nats disT2)), (2000000, .vptr 79038 0), (2000001, .ro 1 (nats l)), (2000002, .ro 1 (nats d))], stW5 t most S'⟩ → R1.ap st' := by
      intro S' st' ho e hw
      refine hR1 S' _ (ms_lt hok he ?_) ⟨ho, by rw [e]; exact hpk⟩ hw
      rw [e]
      by_cases hpe : (repS t most d a.1 a.2).err = 0
      ·exact .inr (hsu hpe)
      ·exact .inl hpe
     have stop : ∀ S', S' = repS t most d a.1 a.2 → S'.err ≠ 0 → R (stW5 t most S') (.tup []) [.vptr 79038 0, .ro 1 (nats l), .ro 1 (nats d)] := fun S' e h => fin S' (by rw [← e, packS_err h] at hpk; exact hpk)
     simp (disch := omega) only [go_sem, simprocAttr, stW5, hae]
     (repeat (first | refine gskip_of ?_ | refine gcskip_of ?_ | refine gopen_of ?_) <;> simp (disch := omega) only [go_sem, simprocAttr, hae, hi256])
     by_cases h285 : 285 < a.1
     ·have hrep : failS 3 a.2 = repS t most d a.1 a.2 := by unfold repS; rw [if_pos h285]
      have := stop _ hrep (fail_err (by omega))
      simp only [stW5] at this
      simp (disch := omega) only [go_sem, simprocAttr] at this
      simp (disch := omega) only [go_sem, simprocAttr]
      refine call_win (stW5 t most a.2) (r5fail_ok t most a.2 3) (by simp (disch := omega) only [go_sem, simprocAttr, stW5, hae]) nofun ?_
      rintro h' v ar ⟨rfl, rfl, rfl⟩
      refine ⟨by simp (disch := omega) only [go_sem, simprocAttr, stW5], rfl, ?_⟩
      simp (disch := omega) only [go_sem, simprocAttr, stW5]
      exact this
     ·have hrep : repS t most d a.1 a.2 = if (symS t d (numS t (lenB (a.1 - 257)).2 a.2).2).2.err ≠ 0 then (symS t d (numS t (lenB (a.1 - 257)).2 a.2).2).2 else if 29 < (symS t d (numS t (lenB (a.1 - 257)).2 a.2).2).1 then failS 3 (symS t d (numS t (lenB (a.1 - 257)).2 a.2).2).2 else
          (if (numS t (disB (symS t d (numS t (lenB (a.1 - 257)).2 a.2).2).1).2 (symS t d (numS t (lenB (a.1 - 257)).2 a.2).2).2).2.err ≠ 0 then (numS t (disB (symS t d (numS t (lenB (a.1 - 257)).2 a.2).2).1).2 (symS t d (numS t (lenB (a.1 - 257)).2 a.2).2).2).2
          else if (numS t (disB (symS t d (numS t (lenB (a.1 - 257)).2 a.2).2).1).2 (symS t d (numS t (lenB (a.1 - 257)).2 a.2).2).2).2.out.length < (disB (symS t d (numS t (lenB (a.1 - 257)).2 a.2).2).1).1 + (numS t (disB (symS t d (numS t (lenB (a.1 - 257)).2 a.2).2).1).2 (symS t d (numS t (lenB (a.1 - 257)).2 a.2).2).2).1
          then failS 3 (numS t (disB (symS t d (numS t (lenB (a.1 - 257)).2 a.2).2).1).2 (symS t d (numS t (lenB (a.1 - 257)).2 a.2).2).2).2
          else backS most ((disB (symS t d (numS t (lenB (a.1 - 257)).2 a.2).2).1).1 + (numS t (disB (symS t d (numS t (lenB (a.1 - 257)).2 a.2).2).1).2 (symS t d (numS t (lenB (a.1 - 257)).2 a.2).2).2).1) ((lenB (a.1 - 257)).1 + (numS t (lenB (a.1 - 257)).2 a.2).1) (numS t (disB (symS t d (numS t (lenB (a.1 - 257)).2 a.2).2).1).2 (symS t d (numS t (lenB (a.1 - 257)).2 a.2).2).2).2) := by
       unfold repS; rw [if_neg h285]
      have hg1 : lenT1.getD (a.1 - 257) 0 = (lenB (a.1 - 257)).1 := upTo_get _ (by omega)
      have hg2 : lenT2.getD (a.1 - 257) 0 = (lenB (a.1 - 257)).2 := upTo_get _ (by omega)
      have hlb : (lenB (a.1 - 257)).1 ≤ 300 ∧ (lenB (a.1 - 257)).2 ≤ 8 := (by decide +kernel : ∀ i, i < 29 → (lenB i).1 ≤ 300 ∧ (lenB i).2 ≤ 8) _ (by omega)
      obtain ⟨hlb1, hlb2⟩ := hlb
      generalize hB : lenB (a.1 - 257) = lb at *
      have ei : (a.1 : Int) - 257 = ((a.1 - 257 : Nat) : Int) := by omega
      have hnum := r5num_ok t most a.2 hok2 lb.2 (by omega)
      have hb1 := numS_lt (t := t) (S := a.2) (n := lb.2)
      have hb2 : 2 ^ lb.2 ≤ 2 ^ 8 := Nat.pow_le_pow_right (by decide) hlb2
      have hok3 := ok_num (n := lb.2) hok2
      simp (disch := omega) only [go_sem, simprocAttr]
      refine vcW_cut hN (fun _ : Unit => ⟨[(0, .vptr 79038 0), (6, .ro 1 (codesA (codesL l))), (7, .ro 1 (codesA (codesL d))), (8, .ro 1 (nats lenT1)), (9, .ro 1 (nats lenT2)), (10, .ro 1 (nats disT1)), (11, .ro 1 (nats disT2)), (13, .int .i64 (lb.1 + (numS t lb.2 a.2).1 : Nat)), (2000000, .vptr 79038 0), (2000001, .ro 1 (nats l)), (2000002, .ro 1 (nats d))], stW5 t most (numS t lb.2 a.2).2⟩) (fun _ => True) (fun R2 hR2 => ?_) (fun _ _ => ?_)
      ·simp (disch := omega) only [go_sem, simprocAttr, ei, hn1, hn2, hl1, hl2, nth_nats, hg1, hg2]
       refine ⟨?_, ?_⟩
       ·refine call_win (stW5 t most a.2) hnum (by simp (disch := omega) only [go_sem, simprocAttr, stW5, hae]) nofun ?_
        rintro h' v ar ⟨rfl, rfl, rfl⟩
        refine ⟨by simp (disch := omega) only [go_sem, simprocAttr, stW5], rfl, ?_⟩
        simp (disch := omega) only [go_sem, simprocAttr, stW5]
        exact hR2 () _ trivial (.le (by simp (disch := omega) only [go_sem, simprocAttr, stW5]))
       ·refine call_win (stW5 t most a.2) hnum (by simp (disch := omega) only [go_sem, simprocAttr, stW5, hae]) nofun ?_
        rintro h' v ar ⟨rfl, rfl, rfl⟩
        refine ⟨by simp (disch := omega) only [go_sem, simprocAttr, stW5], rfl, ?_⟩
        simp (disch := omega) only [go_sem, simprocAttr, stW5]
        exact hR2 () _ trivial (.le (by simp (disch := omega) only [go_sem, simprocAttr, stW5]))
      generalize numS t lb.2 a.2 = b at *
      simp (disch := omega) only [go_sem, simprocAttr, stW5]
      refine call_win (stW5 t most b.2) (r5sym_ok t most b.2 hok3 d hd hdl) (by simp (disch := omega) only [go_sem, simprocAttr, stW5]) nofun ?_
      rintro h' v ar ⟨rfl, rfl, rfl⟩
      have hok4 : OkS t most (symS t d b.2).2 := hok3.mv mv_sym
      generalize symS t d b.2 = k at *
      refine ⟨by simp (disch := omega) only [go_sem, simprocAttr, stW5], rfl, ?_⟩
      by_cases hke : k.2.err = 0
      ·rw [if_neg (by simpa using hke)] at hrep
       by_cases hk29 : 29 < k.1
       ·rw [if_pos hk29] at hrep
        have := stop _ hrep.symm (fail_err (by omega))
        simp only [stW5] at this
        simp (disch := omega) only [go_sem, simprocAttr] at this
        have hfe : ¬ (((failS 3 k.2).err : Int) = 0) := by have := fail_err (S := k.2) (e := 3) (by omega); omega
        simp (disch := omega) only [go_sem, simprocAttr, stW5, hke, Cod.r5packed_jn]
        (repeat (first | refine gskip_of ?_ | refine gcskip_of ?_ | refine gopen_of ?_) <;> simp (disch := omega) only [go_sem, simprocAttr, hke])
        refine call_win (stW5 t most k.2) (r5fail_ok t most k.2 3) (by simp (disch := omega) only [go_sem, simprocAttr, stW5, hke]) nofun ?_
        rintro h' v ar ⟨rfl, rfl, rfl⟩
        refine ⟨by simp (disch := omega) only [go_sem, simprocAttr, stW5], rfl, ?_⟩
        simp (disch := omega) only [go_sem, simprocAttr, stW5]
        refine vcW_mid hN ?_
        simp (disch := omega) only [go_sem, simprocAttr, hfe, Cod.r5packed_jn]
        exact this
       ·rw [if_neg hk29] at hrep
        have hg3 : disT1.getD k.1 0 = (disB k.1).1 := upTo_get _ (by omega)
        have hg4 : disT2.getD k.1 0 = (disB k.1).2 := upTo_get _ (by omega)
        have hdb : (disB k.1).1 ≤ 40000 ∧ (disB k.1).2 ≤ 15 ∧ 1 ≤ (disB k.1).1 := (by decide +kernel : ∀ i, i < 30 → (disB i).1 ≤ 40000 ∧ (disB i).2 ≤ 15 ∧ 1 ≤ (disB i).1) _ (by omega)
        obtain ⟨hdb1, hdb2, hdb3⟩ := hdb
        generalize disB k.1 = db at *
        have hnum := r5num_ok t most k.2 hok4 db.2 (by omega)
        have hc1 := numS_lt (t := t) (S := k.2) (n := db.2)
        have hc2 : 2 ^ db.2 ≤ 2 ^ 15 := Nat.pow_le_pow_right (by decide) hdb2
        have hok5 := ok_num (n := db.2) hok4
        simp (disch := omega) only [go_sem, simprocAttr, stW5, hke, Cod.r5packed_jn]
        (repeat (first | refine gskip_of ?_ | refine gcskip_of ?_ | refine gopen_of ?_) <;> simp (disch := omega) only [go_sem, simprocAttr, hke])
        refine vcW_mid hN ?_
        simp (disch := omega) only [go_sem, simprocAttr, hke]
        refine vcW_cut hN (fun _ : Unit => ⟨[(0, .vptr 79038 0), (6, .ro 1 (codesA (codesL l))), (7, .ro 1 (codesA (codesL d))), (8, .ro 1 (nats lenT1)), (9, .ro 1 (nats lenT2)), (10, .ro 1 (nats disT1)), (11, .ro 1 (nats disT2)), (13, .int .i64 (lb.1 + b.1 : Nat)), (15, .int .i64 (db.1 + (numS t db.2 k.2).1 : Nat)), (2000000, .vptr 79038 0), (2000001, .ro 1 (nats l)), (2000002, .ro 1 (nats d))], stW5 t most (numS t db.2 k.2).2⟩) (fun _ => True) (fun R2 hR2 => ?_) (fun _ _ => ?_)
        ·simp (disch := omega) only [go_sem, simprocAttr, hke, hn3, hn4, hl3, hl4, nth_nats, hg3, hg4]
         refine ⟨?_, ?_⟩
         ·refine call_win (stW5 t most k.2) hnum (by simp (disch := omega) only [go_sem, simprocAttr, stW5, hke]) nofun ?_
          rintro h' v ar ⟨rfl, rfl, rfl⟩
          refine ⟨by simp (disch := omega) only [go_sem, simprocAttr, stW5], rfl, ?_⟩
          simp (disch := omega) only [go_sem, simprocAttr, stW5]
          exact hR2 () _ trivial (.le (by simp (disch := omega) only [go_sem, simprocAttr, stW5]))
         ·refine call_win (stW5 t most k.2) hnum (by simp (disch := omega) only [go_sem, simprocAttr, stW5, hke]) nofun ?_
          rintro h' v ar ⟨rfl, rfl, rfl⟩
          refine ⟨by simp (disch := omega) only [go_sem, simprocAttr, stW5], rfl, ?_⟩
          simp (disch := omega) only [go_sem, simprocAttr, stW5]
          exact hR2 () _ trivial (.le (by simp (disch := omega) only [go_sem, simprocAttr, stW5]))
        generalize numS t db.2 k.2 = c at *
        -- is the place ahead of all that came out?
        have copy : ∀ S1, OkS t most S1 → (S1.err ≠ 0 → S1 = repS t most d a.1 a.2) → (S1.err = 0 → db.1 + c.1 ≤ S1.out.length ∧ backS most (db.1 + c.1) (lb.1 + b.1) S1 = repS t most d a.1 a.2) →
            vcW Tryz.prog E Cod.r5packed_15 (KQ.blk 1 (KQ.rnd R1 (KQ.blk 0 (KQ.post [] 3 R)))) ⟨[(0, .vptr 79038 0), (6, .ro 1 (codesA (codesL l))), (7, .ro 1 (codesA (codesL d))), (8, .ro 1 (nats lenT1)), (9, .ro 1 (nats lenT2)), (10, .ro 1 (nats disT1)), (11, .ro 1 (nats disT2)), (13, .int .i64 (lb.1 + b.1 : Nat)), (15, .int .i64 (db.1 + c.1 : Nat)), (2000000, .vptr 79038 0), (2000001, .ro 1 (nats l)), (2000002, .ro 1 (nats d))], stW5 t most S1⟩ := by
         intro S1 ho1 hbad hgood
         simp (disch := omega) only [go_sem, simprocAttr]
         refine vcW_loop hN (fun q : Nat × SS => ⟨[(0, .vptr 79038 0), (6, .ro 1 (codesA (codesL l))), (7, .ro 1 (codesA (codesL d))), (8, .ro 1 (nats lenT1)), (9, .ro 1 (nats lenT2)), (10, .ro 1 (nats disT1)), (11, .ro 1 (nats disT2)), (13, .int .i64 (lb.1 + b.1 : Nat)), (15, .int .i64 (db.1 + c.1 : Nat)), (16, .int .i64 q.1), (2000000, .vptr 79038 0), (2000001, .ro 1 (nats l)), (2000002, .ro 1 (nats d))], stW5 t most q.2⟩)
          (fun q => q.1 ≤ lb.1 + b.1 ∧ OkS t most q.2 ∧ (q.2.err ≠ 0 → q.2 = repS t most d a.1 a.2) ∧ (q.2.err = 0 → db.1 + c.1 ≤ q.2.out.length ∧ backS most (db.1 + c.1) (lb.1 + b.1 - q.1) q.2 = repS t most d a.1 a.2)) (fun q => lb.1 + b.1 - q.1) (0, S1) (.le (by simp (disch := omega) only [go_sem, simprocAttr, stW5])) ⟨by omega, ho1, hbad, hgood⟩ ?_
         rintro ⟨i, S2⟩ R2 ⟨hi, ho2, hbad2, hgood2⟩ hR2
         simp only at hi ho2 hbad2 hgood2
         by_cases he2 : S2.err = 0
         ·obtain ⟨hbl, hbk⟩ := hgood2 he2
          by_cases hlt2 : i < lb.1 + b.1
          ·obtain ⟨q, hq⟩ : ∃ q, lb.1 + b.1 - i = q + 1 := ⟨lb.1 + b.1 - i - 1, by omega⟩
           rw [hq, back_succ, if_neg (by simpa using he2)] at hbk
           have ej : (S2.out.length : Int) - ((db.1 : Int) + (c.1 : Int)) = ((S2.out.length - (db.1 + c.1) : Nat) : Int) := by omega
           have hgo := getD_out S2 (S2.out.length - (db.1 + c.1)) (by omega)
           have hput := r5put_ok t most S2 ho2 (S2.out.getD (S2.out.length - (db.1 + c.1)) 0)
           generalize S2.out.getD (S2.out.length - (db.1 + c.1)) 0 = ch at *
           have hml : S2.out.length ≤ 1000000 := Nat.le_trans ho2.ol ho2.ml
           simp (disch := omega) only [go_sem, simprocAttr, stW5, he2, ej, hgo]
           (repeat (first | refine gskip_of ?_ | refine gcskip_of ?_ | refine gopen_of ?_) <;> simp (disch := omega) only [go_sem, simprocAttr, he2, ej, hgo])
           refine call_win (stW5 t most S2) hput (by simp (disch := omega) only [go_sem, simprocAttr, stW5, he2]) nofun ?_
           rintro h' v ar ⟨rfl, rfl, rfl⟩
           refine ⟨by simp (disch := omega) only [go_sem, simprocAttr, stW5], rfl, ?_⟩
           simp (disch := omega) only [go_sem, simprocAttr, stW5]
           refine hR2 (i + 1, putS most ch S2) _ (by simp only; omega) ⟨by simp only; omega, ho2.mv mv_put, fun hpe => ?_, fun hpe => ?_⟩ (.le (by simp (disch := omega) only [go_sem, simprocAttr, stW5]))
           ·simp only at hpe ⊢
            rw [back_err hpe] at hbk
            exact hbk
           ·simp only at hpe ⊢
            refine ⟨?_, by rw [show lb.1 + b.1 - (i + 1) = q by omega]; exact hbk⟩
            unfold putS at hpe ⊢
            rw [if_neg (by simpa using he2)] at hpe ⊢
            split at hpe
            ·cases hpe
            ·rename_i hf
             rw [if_neg hf]
             simp only [List.length_append]; omega
          ·rw [show lb.1 + b.1 - i = 0 by omega] at hbk
           simp (disch := omega) only [go_sem, simprocAttr, stW5, he2]
           (repeat (first | refine gskip_of ?_ | refine gcskip_of ?_ | refine gopen_of ?_) <;> simp (disch := omega) only [go_sem, simprocAttr, he2])
           exact next S2 _ ho2 hbk (.le (by simp (disch := omega) only [go_sem, simprocAttr, stW5, he2]))
         ·have hi2 : ¬ ((S2.err : Int) = 0) := by omega
          have hb2 := hbad2 he2
          by_cases hlt2 : i < lb.1 + b.1
          ·simp (disch := omega) only [go_sem, simprocAttr, stW5, hi2]
           (repeat (first | refine gskip_of ?_ | refine gcskip_of ?_ | refine gopen_of ?_) <;> simp (disch := omega) only [go_sem, simprocAttr, hi2])
           exact next S2 _ ho2 hb2 (.le (by simp (disch := omega) only [go_sem, simprocAttr, stW5]))
          ·simp (disch := omega) only [go_sem, simprocAttr, stW5, hi2]
           (repeat (first | refine gskip_of ?_ | refine gcskip_of ?_ | refine gopen_of ?_) <;> simp (disch := omega) only [go_sem, simprocAttr, hi2])
           exact next S2 _ ho2 hb2 (.le (by simp (disch := omega) only [go_sem, simprocAttr, stW5]))
        refine vcW_cut hN (fun S1 : SS => ⟨[(0, .vptr 79038 0), (6, .ro 1 (codesA (codesL l))), (7, .ro 1 (codesA (codesL d))), (8, .ro 1 (nats lenT1)), (9, .ro 1 (nats lenT2)), (10, .ro 1 (nats disT1)), (11, .ro 1 (nats disT2)), (13, .int .i64 (lb.1 + b.1 : Nat)), (15, .int .i64 (db.1 + c.1 : Nat)), (2000000, .vptr 79038 0), (2000001, .ro 1 (nats l)), (2000002, .ro 1 (nats d))], stW5 t most S1⟩) (fun S1 => OkS t most S1 ∧ (S1.err ≠ 0 → S1 = repS t most d a.1 a.2) ∧ (S1.err = 0 → db.1 + c.1 ≤ S1.out.length ∧ backS most (db.1 + c.1) (lb.1 + b.1) S1 = repS t most d a.1 a.2)) (fun R2 hR2 => ?_) (fun S1 h => copy S1 h.1 h.2.1 h.2.2)
        by_cases hce : c.2.err = 0
        ·rw [if_neg (by simpa using hce)] at hrep
         by_cases hfar : c.2.out.length < db.1 + c.1
         ·rw [if_pos hfar] at hrep
          simp (disch := omega) only [go_sem, simprocAttr, stW5, hce]
          (repeat (first | refine gskip_of ?_ | refine gcskip_of ?_ | refine gopen_of ?_) <;> simp (disch := omega) only [go_sem, simprocAttr, hce])
          refine call_win (stW5 t most c.2) (r5fail_ok t most c.2 3) (by simp (disch := omega) only [go_sem, simprocAttr, stW5, hce]) nofun ?_
          rintro h' v ar ⟨rfl, rfl, rfl⟩
          refine ⟨by simp (disch := omega) only [go_sem, simprocAttr, stW5], rfl, ?_⟩
          simp (disch := omega) only [go_sem, simprocAttr, stW5]
          exact hR2 (failS 3 c.2) _ ⟨hok5.mv mv_fail, fun _ => hrep.symm, fun e => absurd e (fail_err (by omega))⟩ (.le (by simp (disch := omega) only [go_sem, simprocAttr, stW5]))
         ·rw [if_neg hfar] at hrep
          simp (disch := omega) only [go_sem, simprocAttr, stW5, hce]
          (repeat (first | refine gskip_of ?_ | refine gcskip_of ?_ | refine gopen_of ?_) <;> simp (disch := omega) only [go_sem, simprocAttr, hce])
          exact hR2 c.2 _ ⟨hok5, fun e => absurd hce e, fun _ => ⟨by omega, hrep.symm⟩⟩ (.le (by simp (disch := omega) only [go_sem, simprocAttr, stW5, hce]))
        ·rw [if_pos hce] at hrep
         have hi : ¬ ((c.2.err : Int) = 0) := by omega
         simp (disch := omega) only [go_sem, simprocAttr, stW5, hi]
         (repeat (first | refine gskip_of ?_ | refine gcskip_of ?_ | refine gopen_of ?_) <;> simp (disch := omega) only [go_sem, simprocAttr, hi])
         exact hR2 c.2 _ ⟨hok5, fun _ => hrep.symm, fun e => absurd e hce⟩ (.le (by simp (disch := omega) only [go_sem, simprocAttr, stW5]))
      ·rw [if_pos hke] at hrep
       have := stop _ hrep.symm hke
       simp only [stW5] at this
       simp (disch := omega) only [go_sem, simprocAttr] at this
       have hi : ¬ ((k.2.err : Int) = 0) := by omega
       simp (disch := omega) only [go_sem, simprocAttr, stW5, hi, Cod.r5packed_jn]
       (repeat (first | refine gskip_of ?_ | refine gcskip_of ?_ | refine gopen_of ?_) <;> simp (disch := omega) only [go_sem, simprocAttr, hi])
       refine vcW_mid hN ?_
       simp (disch := omega) only [go_sem, simprocAttr, hi, Cod.r5packed_jn]
       exact this
  ·rw [if_pos hae] at hst
   rw [hst] at hpk
   simp only [if_true] at hpk
   have hi : ¬ ((a.2.err : Int) = 0) := by omega
   simp (disch := omega) only [go_sem, simprocAttr, stW5, hi]
   (repeat (first | refine gskip_of ?_ | refine gcskip_of ?_ | refine gopen_of ?_) <;> simp (disch := omega) only [go_sem, simprocAttr, hi])
   have := fin a.2 hpk
   simp only [stW5] at this
   simp (disch := omega) only [go_sem, simprocAttr] at this
   exact this
 ·have hi : ¬ ((S.err : Int) = 0) := by omega
  rw [packS_err he] at hpk
  simp (disch := omega) only [go_sem, simprocAttr, stW5, hi]
  have := fin S hpk
  simp only [stW5] at this
  simp (disch := omega) only [go_sem, simprocAttr] at this
  exact this
end Go.Proofs.YtjoefngnjoofeaaGreatDoor.Pk
namespace Go.Proofs.YtjoefngnjoofeaaGreatDoor.Pk
open Eng
set_option maxRecDepth 10000
abbrev Q5 (R : HP → AV → List AV → Prop) : KQ := KQ.post [.tmp 2, .tmp 3] 1 R
def dynPost (t : Bs) (most : Nat) (F : (List Nat × List Nat) × SS) (h' : HP) (v : AV) (ar : List AV) : Prop :=
 h' = stW5 t most F.2 ∧ v = (if F.2.err = 0 then .tup [.ro 1 (nats F.1.1), .ro 1 (nats F.1.2)] else .tup [.nilsl, .nilsl]) ∧ ar = [.vptr ST5 0]
theorem dyn_none {t : Bs} {most : Nat} {F : (List Nat × List Nat) × SS} {R : HP → AV → List AV → Prop} (hR : PostTo (dynPost t most F) R) {S : SS} (hF : F = (([], []), S)) (he : S.err ≠ 0) {h : HP} (hh : leH h (stW5 t most S)) :
    R h (.tup [.nilsl, .nilsl]) [.vptr 79038 0] := by
 subst hF
 exact hR.le hh ⟨rfl, (if_neg he).symm, rfl⟩
theorem take15 {l : List Nat} (h : ∀ n ∈ l, n ≤ 15) (k : Nat) : ∀ n ∈ l.take k, n ≤ 15 := fun n hn => h n (List.mem_of_mem_take hn)
theorem drop15 {l : List Nat} (h : ∀ n ∈ l, n ≤ 15) (k : Nat) : ∀ n ∈ l.drop k, n ≤ 15 := fun n hn => h n (List.mem_of_mem_drop hn)
set_option maxHeartbeats 2000000 in
theorem dyn_c (t : Bs) (most : Nat) (F : (List Nat × List Nat) × SS) (S : SS) (l : List Nat) (nl nd : Nat) {E : Env} {R : HP → AV → List AV → Prop} (hN : E.N ≤ 1000000) (hR : PostTo (dynPost t most F) R) (hl : ∀ n ∈ l, n ≤ 15)
    (hbad : S.err ≠ 0 → F = (([], []), S)) (hgood : S.err = 0 → l.length = nl + nd ∧ 257 ≤ nl ∧ nl ≤ 286 ∧ nd ≤ 30 ∧ F = if l.getD 256 0 = 0 ∨ chkL (l.take nl) = false ∨ chkL (l.drop nl) = false then (([], []), { S with err := 3 }) else ((l.take nl, l.drop nl), S)) :
    vcW Tryz.prog E Cod.r5dyn_12 (Q5 R) ⟨[(0, .vptr 79038 0), (4, .int .i64 nl), (11, .sl 75094 0 l.length), (2000000, .vptr 79038 0)], stW5 t most S ++ [(75094, .arr 1 (nats l))]⟩ := by
 have hnl := nats_len l
 by_cases he : S.err = 0
 ·obtain ⟨h1, h2, h3, h4, hF⟩ := hgood he
  have ht1 : (l.take nl).length = nl := by rw [List.length_take]; omega
  have hd1 : (l.drop nl).length = nd := by rw [List.length_drop]; omega
  have hck1 := r4check_ok (l.take nl) (take15 hl nl) (by omega)
  have hck2 := r4check_ok (l.drop nl) (drop15 hl nl) (by omega)
  have es : (nl : Int) - 0 = nl := by omega
  have en : l.length - nl = nd := by omega
  have etd : (l.drop nl).take nd = l.drop nl := List.take_of_length_le (by omega)
  have etk : (l.drop 0).take nl = l.take nl := rfl
  have bad : F = (([], []), { S with err := 3 }) → ∀ h, leH h (stW5 t most { S with err := 3 }) → R h (.tup [.nilsl, .nilsl]) [.vptr 79038 0] := fun hF h hh => dyn_none hR hF (by simp) hh
  by_cases h256 : l.getD 256 0 = 0
  ·rw [if_pos (.inl h256)] at hF
   simp (disch := omega) only [go_sem, simprocAttr, stW5, he, nth_nats, hnl, h256]
   (repeat (first | refine gskip_of ?_ | refine gcskip_of ?_ | refine gopen_of ?_) <;> simp (disch := omega) only [go_sem, simprocAttr])
   refine call_win (stW5 t most S) (r5fail_ok t most S 3) (by simp (disch := omega) only [go_sem, simprocAttr, stW5, he]) nofun ?_
   rintro h' v ar ⟨rfl, rfl, rfl⟩
   refine ⟨by simp (disch := omega) only [go_sem, simprocAttr, stW5], rfl, ?_⟩
   rw [fail_of he]
   simp (disch := omega) only [go_sem, simprocAttr, stW5]
   exact bad hF _ (by simp (disch := omega) only [go_sem, simprocAttr, stW5])
  ·have hi256 : ¬ ((l.getD 256 0 : Nat) : Int) = 0 := by omega
   generalize hx : l.getD 256 0 = x256 at *
   cases hc1 : chkL (l.take nl) with
   | false =>
    rw [if_pos (.inr (.inl hc1))] at hF
    rw [hc1] at hck1
    simp (disch := omega) only [go_sem, simprocAttr, stW5, he, nth_nats, hnl, hx, hi256]
    (repeat (first | refine gskip_of ?_ | refine gcskip_of ?_ | refine gopen_of ?_) <;> simp (disch := omega) only [go_sem, simprocAttr])
    refine gcyes_of (callT_flat (by simp (disch := omega) only [go_sem, simprocAttr, nats_sub]) hck1 (by simp (disch := omega) only [go_sem, simprocAttr]) rfl ?_)
    simp (disch := omega) only [go_sem, simprocAttr]
    (repeat (first | refine gskip_of ?_ | refine gcskip_of ?_ | refine gopen_of ?_) <;> simp (disch := omega) only [go_sem, simprocAttr])
    refine call_win (stW5 t most S) (r5fail_ok t most S 3) (by simp (disch := omega) only [go_sem, simprocAttr, stW5, he]) nofun ?_
    rintro h' v ar ⟨rfl, rfl, rfl⟩
    refine ⟨by simp (disch := omega) only [go_sem, simprocAttr, stW5], rfl, ?_⟩
    rw [fail_of he]
    simp (disch := omega) only [go_sem, simprocAttr, stW5]
    exact bad hF _ (by simp (disch := omega) only [go_sem, simprocAttr, stW5])
   | true =>
    rw [hc1] at hck1
    cases hc2 : chkL (l.drop nl) with
    | false =>
     rw [if_pos (.inr (.inr hc2))] at hF
     rw [hc2] at hck2
     simp (disch := omega) only [go_sem, simprocAttr, stW5, he, nth_nats, hnl, hx, hi256]
     (repeat (first | refine gskip_of ?_ | refine gcskip_of ?_ | refine gopen_of ?_) <;> simp (disch := omega) only [go_sem, simprocAttr])
     refine gcyes_of (callT_flat (by simp (disch := omega) only [go_sem, simprocAttr, nats_sub]) hck1 (by simp (disch := omega) only [go_sem, simprocAttr]) rfl ?_)
     simp (disch := omega) only [go_sem, simprocAttr]
     (repeat (first | refine gskip_of ?_ | refine gcskip_of ?_ | refine gopen_of ?_) <;> simp (disch := omega) only [go_sem, simprocAttr])
     refine gcyes_of (callT_flat (by simp (disch := omega) only [go_sem, simprocAttr, nats_sub, en, etd]) hck2 (by simp (disch := omega) only [go_sem, simprocAttr]) rfl ?_)
     simp (disch := omega) only [go_sem, simprocAttr]
     (repeat (first | refine gskip_of ?_ | refine gcskip_of ?_ | refine gopen_of ?_) <;> simp (disch := omega) only [go_sem, simprocAttr])
     refine call_win (stW5 t most S) (r5fail_ok t most S 3) (by simp (disch := omega) only [go_sem, simprocAttr, stW5, he]) nofun ?_
     rintro h' v ar ⟨rfl, rfl, rfl⟩
     refine ⟨by simp (disch := omega) only [go_sem, simprocAttr, stW5], rfl, ?_⟩
     rw [fail_of he]
     simp (disch := omega) only [go_sem, simprocAttr, stW5]
     exact bad hF _ (by simp (disch := omega) only [go_sem, simprocAttr, stW5])
    | true =>
     rw [if_neg (by simp [hc1, hc2]; omega)] at hF
     rw [hc2] at hck2
     subst hF
     simp (disch := omega) only [go_sem, simprocAttr, stW5, he, nth_nats, hnl, hx, hi256]
     (repeat (first | refine gskip_of ?_ | refine gcskip_of ?_ | refine gopen_of ?_) <;> simp (disch := omega) only [go_sem, simprocAttr])
     refine gcyes_of (callT_flat (by simp (disch := omega) only [go_sem, simprocAttr, nats_sub]) hck1 (by simp (disch := omega) only [go_sem, simprocAttr]) rfl ?_)
     simp (disch := omega) only [go_sem, simprocAttr]
     (repeat (first | refine gskip_of ?_ | refine gcskip_of ?_ | refine gopen_of ?_) <;> simp (disch := omega) only [go_sem, simprocAttr])
     refine gcyes_of (callT_flat (by simp (disch := omega) only [go_sem, simprocAttr, nats_sub, en, etd]) hck2 (by simp (disch := omega) only [go_sem, simprocAttr]) rfl ?_)
     simp (disch := omega) only [go_sem, simprocAttr]
     (repeat (first | refine gskip_of ?_ | refine gcskip_of ?_ | refine gopen_of ?_) <;> simp (disch := omega) only [go_sem, simprocAttr])
     exact hR.wk (h' := stW5 t most S) (r' := .tup [.ro 1 (nats (l.take nl)), .ro 1 (nats (l.drop nl))]) (ar' := [.vptr ST5 0]) rfl (.frz 75094 (.le (by simp (disch := omega) only [go_sem, simprocAttr, stW5, he, nats_sub, en, etd]))) ⟨rfl, (if_pos he).symm, rfl⟩
 ·have hi : ¬ ((S.err : Int) = 0) := by omega
  simp (disch := omega) only [go_sem, simprocAttr, stW5, hi]
  exact dyn_none hR (hbad he) he (by simp (disch := omega) only [go_sem, simprocAttr, stW5])
theorem lens_succ (t : Bs) (fl : List Nat) (N k : Nat) (l : List Nat) (S : SS) : lensS t fl N (k + 1) l S = if N ≤ l.length ∨ S.err ≠ 0 then (l, S) else
    if (overS N l (timesS t l (symS t fl S).1 (symS t fl S).2)).err ≠ 0 then (l, overS N l (timesS t l (symS t fl S).1 (symS t fl S).2))
    else lensS t fl N k (l ++ List.replicate (timesS t l (symS t fl S).1 (symS t fl S).2).1 (timesS t l (symS t fl S).1 (symS t fl S).2).2.1) (overS N l (timesS t l (symS t fl S).1 (symS t fl S).2)) := rfl
theorem nats_rep (l : List Nat) (k x : Nat) : nats (l ++ List.replicate k x) ++ [.int .i64 (x : Int)] = nats (l ++ List.replicate (k + 1) x) := by
 rw [nats_app, List.append_assoc, ← List.replicate_succ']
theorem mv_over {t : Bs} {most N : Nat} {l : List Nat} {b : Nat × Nat × SS} : Mv t most b.2.2 (overS N l b) := by
 unfold overS
 split
 ·exact mv_fail
 ·exact .refl
end Go.Proofs.YtjoefngnjoofeaaGreatDoor.Pk
namespace Go.Proofs.YtjoefngnjoofeaaGreatDoor.Pk
open Eng
set_option maxRecDepth 10000
abbrev Q5b (R1 RX : KS) (R : HP → AV → List AV → Prop) : KQ := KQ.blk 3 (KQ.rnd R1 (KQ.blk 2 (KQ.rnd RX (Q5 R))))
set_option maxHeartbeats 1000000 in
theorem dyn_sw (t : Bs) (most : Nat) (l fl : List Nat) (nl nd : Nat) (s : Nat) (S : SS) {E : Env} {R1 R2 RX : KS} {R : HP → AV → List AV → Prop} (hN : E.N ≤ 1000000) (h0 : OkS t most S) (hs : s < 19) (hl : ∀ n ∈ l, n ≤ 15) (hll : l.length ≤ 400)
    (hnil : s = 16 → l = [] → ∀ h, leH h (stW5 t most (failS 3 S)) → R h (.tup [.nilsl, .nilsl]) [.vptr 79038 0])
    (hR2 : ∀ st', Wk st' ⟨[(0, .vptr 79038 0), (4, .int .i64 nl), (5, .int .i64 nd), (10, .ro 1 (codesA (codesL fl))), (11, .sl 75094 0 l.length), (13, .int .i64 ((timesS t l s S).1 : Nat)), (14, .int .i64 ((timesS t l s S).2.1 : Nat)), (2000000, .vptr 79038 0)], stW5 t most (timesS t l s S).2.2 ++ [(75094, .arr 1 (nats l))]⟩ → R2.ap st') :
    vcW Tryz.prog E Cod.r5dyn_41 (KQ.rnd R2 (Q5b R1 RX R)) ⟨[(0, .vptr 79038 0), (4, .int .i64 nl), (5, .int .i64 nd), (10, .ro 1 (codesA (codesL fl))), (11, .sl 75094 0 l.length), (12, .int .i64 s), (13, .int .i64 1), (14, .int .i64 s), (2000000, .vptr 79038 0)], stW5 t most S ++ [(75094, .arr 1 (nats l))]⟩ := by
 have hnl := nats_len l
 unfold timesS at hR2
 by_cases h16 : s = 16
 ·rw [if_pos h16] at hR2
  by_cases hle : l = []
  ·have hn := hnil h16 hle
   subst hle
   subst h16
   simp (disch := omega) only [go_sem, simprocAttr, stW5, nats_nil]
   (repeat (first | refine gskip_of ?_ | refine gcskip_of ?_ | refine gopen_of ?_) <;> simp (disch := omega) only [go_sem, simprocAttr])
   refine call_win (stW5 t most S) (r5fail_ok t most S 3) (by simp (disch := omega) only [go_sem, simprocAttr, stW5]) nofun ?_
   rintro h' v ar ⟨rfl, rfl, rfl⟩
   generalize failS 3 S = S1 at *
   refine ⟨by simp (disch := omega) only [go_sem, simprocAttr, stW5], rfl, ?_⟩
   simp (disch := omega) only [go_sem, simprocAttr, stW5]
   exact hn _ (by simp (disch := omega) only [go_sem, simprocAttr, stW5])
  ·rw [if_neg hle] at hR2
   have hl0 : 0 < l.length := by cases l with | nil => exact absurd rfl hle | cons => simp
   have el : (l.length : Int) - 1 = ((l.length - 1 : Nat) : Int) := by omega
   have hz : ¬ ((l.length : Int) = 0) := by omega
   have hx : nth (nats l) (l.length - 1) = .int .i64 (l.getD (l.length - 1) 0 : Nat) := nth_nats (by omega)
   subst h16
   simp (disch := omega) only [go_sem, simprocAttr, stW5, hz, el, hnl, hx]
   have hnlt := numS_lt (t := t) (n := 2) (S := S)
   refine call_win (stW5 t most S) (r5num_ok t most S h0 2 (by decide)) (by simp (disch := omega) only [go_sem, simprocAttr, stW5]) nofun ?_
   rintro h' v ar ⟨rfl, rfl, rfl⟩
   generalize numS t 2 S = a at *
   refine ⟨by simp (disch := omega) only [go_sem, simprocAttr, stW5], rfl, ?_⟩
   simp (disch := omega) only [go_sem, simprocAttr, stW5]
   exact hR2 _ (.le (by simp (disch := omega) only [go_sem, simprocAttr, stW5]))
 ·rw [if_neg h16] at hR2
  by_cases h17 : s = 17
  ·rw [if_pos h17] at hR2
   subst h17
   simp (disch := omega) only [go_sem, simprocAttr, stW5]
   (repeat (first | refine gskip_of ?_ | refine gcskip_of ?_ | refine gopen_of ?_) <;> simp (disch := omega) only [go_sem, simprocAttr])
   have hnlt := numS_lt (t := t) (n := 3) (S := S)
   refine call_win (stW5 t most S) (r5num_ok t most S h0 3 (by decide)) (by simp (disch := omega) only [go_sem, simprocAttr, stW5]) nofun ?_
   rintro h' v ar ⟨rfl, rfl, rfl⟩
   generalize numS t 3 S = a at *
   refine ⟨by simp (disch := omega) only [go_sem, simprocAttr, stW5], rfl, ?_⟩
   simp (disch := omega) only [go_sem, simprocAttr, stW5]
   exact hR2 _ (.le (by simp (disch := omega) only [go_sem, simprocAttr, stW5]))
  ·rw [if_neg h17] at hR2
   by_cases h18 : s = 18
   ·rw [if_pos h18] at hR2
    subst h18
    simp (disch := omega) only [go_sem, simprocAttr, stW5]
    (repeat (first | refine gskip_of ?_ | refine gcskip_of ?_ | refine gopen_of ?_) <;> simp (disch := omega) only [go_sem, simprocAttr])
    have hnlt := numS_lt (t := t) (n := 7) (S := S)
    refine call_win (stW5 t most S) (r5num_ok t most S h0 7 (by decide)) (by simp (disch := omega) only [go_sem, simprocAttr, stW5]) nofun ?_
    rintro h' v ar ⟨rfl, rfl, rfl⟩
    generalize numS t 7 S = a at *
    refine ⟨by simp (disch := omega) only [go_sem, simprocAttr, stW5], rfl, ?_⟩
    simp (disch := omega) only [go_sem, simprocAttr, stW5]
    exact hR2 _ (.le (by simp (disch := omega) only [go_sem, simprocAttr, stW5]))
   ·rw [if_neg h18] at hR2
    have e16 : ¬ ((s : Int) = 16) := by omega
    have e17 : ¬ ((s : Int) = 17) := by omega
    have e18 : ¬ ((s : Int) = 18) := by omega
    simp (disch := omega) only [go_sem, simprocAttr, stW5, e16, e17, e18]
    exact hR2 _ (.le (by simp (disch := omega) only [go_sem, simprocAttr, stW5]))
set_option maxHeartbeats 1000000 in
theorem dyn_cp (t : Bs) (most N : Nat) (l fl : List Nat) (nl nd : Nat) (b : Nat × Nat × SS) {E : Env} {R1 RX : KS} {R : HP → AV → List AV → Prop} (hN : E.N ≤ 1000000) (hNN : nl + nd = N) (hN1 : N ≤ 400) (hll : l.length ≤ N) (hb1 : b.1 ≤ 200) (hb2 : b.2.1 ≤ 15)
    (hR1 : ∀ st', Wk st' ⟨[(0, .vptr 79038 0), (4, .int .i64 nl), (5, .int .i64 nd), (10, .ro 1 (codesA (codesL fl))), (11, .sl 75094 0 (if (overS N l b).err = 0 then l ++ List.replicate b.1 b.2.1 else l).length), (2000000, .vptr 79038 0)], stW5 t most (overS N l b) ++ [(75094, .arr 1 (nats (if (overS N l b).err = 0 then l ++ List.replicate b.1 b.2.1 else l)))]⟩ → R1.ap st') :
    vcW Tryz.prog E Cod.r5dyn_28 (Q5b R1 RX R) ⟨[(0, .vptr 79038 0), (4, .int .i64 nl), (5, .int .i64 nd), (10, .ro 1 (codesA (codesL fl))), (11, .sl 75094 0 l.length), (13, .int .i64 b.1), (14, .int .i64 b.2.1), (2000000, .vptr 79038 0)], stW5 t most b.2.2 ++ [(75094, .arr 1 (nats l))]⟩ := by
 obtain ⟨k, x, S⟩ := b
 simp only at hb1 hb2 hR1 ⊢
 have esum : (nl : Int) + (nd : Int) = (N : Int) := by omega
 refine vcW_cut hN (fun _ : Unit => ⟨[(0, .vptr 79038 0), (4, .int .i64 nl), (5, .int .i64 nd), (10, .ro 1 (codesA (codesL fl))), (11, .sl 75094 0 l.length), (13, .int .i64 k), (14, .int .i64 x), (2000000, .vptr 79038 0)], stW5 t most (overS N l (k, x, S)) ++ [(75094, .arr 1 (nats l))]⟩) (fun _ => True) (fun R2 hR2 => ?_) (fun _ _ => ?_)
 ·unfold overS at hR2
  simp only at hR2
  by_cases he : S.err = 0
  ·by_cases hov : N < l.length + k
   ·have hov' : (N : Int) < (l.length : Int) + (k : Int) := by omega
    rw [if_pos hov] at hR2
    simp (disch := omega) only [go_sem, simprocAttr, stW5, he, esum, hov']
    refine call_win (stW5 t most S) (r5fail_ok t most S 3) (by simp (disch := omega) only [go_sem, simprocAttr, stW5, he]) nofun ?_
    rintro h' v ar ⟨rfl, rfl, rfl⟩
    generalize failS 3 S = S1 at *
    refine ⟨by simp (disch := omega) only [go_sem, simprocAttr, stW5], rfl, ?_⟩
    simp (disch := omega) only [go_sem, simprocAttr, stW5]
    exact hR2 () _ trivial (.le (by simp (disch := omega) only [go_sem, simprocAttr, stW5]))
   ·have hov' : ¬ ((N : Int) < (l.length : Int) + (k : Int)) := by omega
    rw [if_neg hov] at hR2
    simp (disch := omega) only [go_sem, simprocAttr, stW5, he, esum, hov']
    exact hR2 () _ trivial (.le (by simp (disch := omega) only [go_sem, simprocAttr, stW5, he]))
  ·have hi : ¬ ((S.err : Int) = 0) := by omega
   have e : failS 3 S = S := if_neg he
   rw [e, ite_self] at hR2
   simp (disch := omega) only [go_sem, simprocAttr, stW5, hi, esum]
   (repeat (first | refine gskip_of ?_ | refine gcskip_of ?_ | refine gopen_of ?_) <;> simp (disch := omega) only [go_sem, simprocAttr, hi, esum])
   exact hR2 () _ trivial (.le (by simp (disch := omega) only [go_sem, simprocAttr, stW5]))
 ·generalize overS N l (k, x, S) = S1 at *
  simp (disch := omega) only [go_sem, simprocAttr, stW5]
  refine vcW_loop hN (fun j : Nat => ⟨[(0, .vptr 79038 0), (4, .int .i64 nl), (5, .int .i64 nd), (10, .ro 1 (codesA (codesL fl))), (11, .sl 75094 0 (l.length + j : Nat)), (13, .int .i64 k), (14, .int .i64 x), (15, .int .i64 j), (2000000, .vptr 79038 0)], stW5 t most S1 ++ [(75094, .arr 1 (nats (l ++ List.replicate j x)))]⟩) (fun j => j ≤ k ∧ (S1.err ≠ 0 → j = 0)) (fun j => k - j) 0
   (.le (by simp (disch := omega) only [go_sem, simprocAttr, stW5]; simp)) ⟨by omega, fun _ => rfl⟩ ?_
  rintro j R2 ⟨hj, hj0⟩ hR2
  have hnl := nats_len (l ++ List.replicate j x)
  have hlr : (l ++ List.replicate j x).length = l.length + j := by simp
  have hnr := nats_rep l j x
  have hsb : sub3 (nats (l ++ List.replicate j x)) 0 (l.length + j) = nats (l ++ List.replicate j x) := by rw [← hlr]; exact nats_take
  by_cases he : S1.err = 0
  ·by_cases hjk : j < k
   ·simp (disch := omega) only [go_sem, simprocAttr, stW5, he, hsb, nats_cells]
    exact hR2 (j + 1) _ (by omega) ⟨by omega, fun h => absurd he h⟩ (.le (by simp (disch := omega) only [go_sem, simprocAttr, stW5, he, hnr]))
   ·obtain rfl : j = k := by omega
    rw [if_pos he, hlr] at hR1
    simp (disch := omega) only [go_sem, simprocAttr, stW5, he]
    (repeat (first | refine gskip_of ?_ | refine gcskip_of ?_ | refine gopen_of ?_) <;> simp (disch := omega) only [go_sem, simprocAttr, he])
    exact hR1 _ (.le (by simp (disch := omega) only [go_sem, simprocAttr, stW5, he]))
  ·obtain rfl := hj0 he
   rw [if_neg he] at hR1
   have hi : ¬ ((S1.err : Int) = 0) := by omega
   have er : l ++ List.replicate 0 x = l := by simp
   rw [er]
   by_cases hjk : 0 < k
   ·simp (disch := omega) only [go_sem, simprocAttr, stW5, hi]
    (repeat (first | refine gskip_of ?_ | refine gcskip_of ?_ | refine gopen_of ?_) <;> simp (disch := omega) only [go_sem, simprocAttr, hi])
    exact hR1 _ (.le (by simp (disch := omega) only [go_sem, simprocAttr, stW5]))
   ·obtain rfl : k = 0 := by omega
    simp (disch := omega) only [go_sem, simprocAttr, stW5, hi]
    (repeat (first | refine gskip_of ?_ | refine gcskip_of ?_ | refine gopen_of ?_) <;> simp (disch := omega) only [go_sem, simprocAttr, hi])
    exact hR1 _ (.le (by simp (disch := omega) only [go_sem, simprocAttr, stW5]))
end Go.Proofs.YtjoefngnjoofeaaGreatDoor.Pk
