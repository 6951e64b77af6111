/- The proof, part 15 of 24. -/
import Derived.Test.YtjoefngnjoofeaaDoorPackOneJ
import Derived.Test.YtjoefngnjoofeaaDoorPackOneM
import Derived.Test.YtjoefngnjoofeaaDoorPackOneN
import Derived.Test.YtjoefngnjoofeaaDoorProg
import Derived.KernelRfl
set_option linter.all false
namespace Go.Proofs.YtjoefngnjoofeaaDoor.Pk
open Eng
set_option maxRecDepth 10000
def RD : Nat := 40014
attribute [go_sem] RD
def rdA (s : Bs) (a hv fr : Nat) : List AV := [.str s, .int .i64 a, .int .u64 (numAt s (8 * a - hv) hv : Nat), .int .i64 hv, .int .i64 fr]
structure RdOK (s : Bs) (a hv p : Nat) : Prop where
 h1 : hv ≤ 39
 h2 : a ≤ s.length
 h3 : p + hv = 8 * a
theorem or_fill {x k b : Nat} (hx : x < 2 ^ k) (hk : k ≤ 56) (hb : b < 256) : bits .or .u64 (x : Int) (IntKind.u64.wrap ((b : Int) * 2 ^ min k 64)) = ((x + b * 2 ^ k : Nat) : Int) := by
 have hp : 2 ^ k ≤ 2 ^ 56 := Nat.pow_le_pow_right (by decide) hk
 have h2 : b * 2 ^ k < 2 ^ 64 := Nat.lt_of_le_of_lt (Nat.mul_le_mul (show b ≤ 255 by omega) hp) (by decide)
 have h3 : x + b * 2 ^ k < 2 ^ 64 := by
  have : (b + 1) * 2 ^ k ≤ 256 * 2 ^ 56 := Nat.mul_le_mul (by omega) hp
  rw [Nat.add_mul] at this
  omega
 have e : IntKind.u64.wrap ((b : Int) * 2 ^ min k 64) = ((b * 2 ^ k : Nat) : Int) := by
  rw [Nat.min_eq_left (by omega), show ((b : Int) * 2 ^ k) = ((b * 2 ^ k : Nat) : Int) by push_cast; rfl]
  exact wrap_u64 (by omega)
 rw [e]
 show IntKind.u64.wrap ((BitVec.ofInt 64 (x : Int) ||| BitVec.ofInt 64 ((b * 2 ^ k : Nat) : Int)).toNat : Int) = _
 rw [BitVec.ofInt_natCast, BitVec.ofInt_natCast, BitVec.toNat_or, BitVec.toNat_ofNat, BitVec.toNat_ofNat, Nat.mod_eq_of_lt (by omega), Nat.mod_eq_of_lt h2, Nat.or_comm, ← Nat.shiftLeft_eq, ← Nat.shiftLeft_add_eq_or_of_lt hx, Nat.shiftLeft_eq, Nat.add_comm]
 exact wrap_u64 (by omega)
theorem fill_ok (s : Bs) (a hv fr p n : Nat) (hs : s.length ≤ 1000000000000) (h : RdOK s a hv p) (hn : n ≤ 32) : Eng.Spec Tryd.prog 95 [(RD, .var (rdA s a hv fr))] [.vptr RD 0, .int .i64 n]
    (fun h' v ar => ∃ a' hv', RdOK s a' hv' p ∧ (n ≤ hv' ∨ a' = s.length) ∧ h' = [(RD, .var (rdA s a' hv' fr))] ∧ v = .tup [] ∧ ar = [.vptr RD 0, .int .i64 n]) := by
 refine Cod.fill_spec (fun E R hN hR => ?_)
 simp (disch := omega) only [go_sem, simprocAttr]
 refine vcW_loop hN (fun q : Nat × Nat => ⟨[(0, .vptr RD 0), (1, .int .i64 n), (2000000, .vptr RD 0), (2000001, .int .i64 n)], [(RD, .var (rdA s q.1 q.2 fr))]⟩) (fun q => RdOK s q.1 q.2 p) (fun q => s.length - q.1) (a, hv) (.le (by simp (disch := omega) only [go_sem, simprocAttr, rdA])) h ?_
 rintro ⟨a, hv⟩ R1 ⟨h1, h2, h3⟩ hR1
 simp only at h1 h2 h3
 by_cases hlt : hv < n
 ·by_cases hat : a < s.length
  ·have hb := (s.getD a 0).toNat_lt
   have ho := or_fill (num_lt s (8 * a - hv) hv) (show hv ≤ 56 by omega) (b := (s.getD a 0).toNat) (by omega)
   have hf := num_fill s a hv (by omega)
   rw [← hf] at ho
   simp (disch := omega) only [go_sem, simprocAttr, rdA]
   (repeat (first | refine gskip_of ?_ | refine gcskip_of ?_ | refine gopen_of ?_) <;> simp (disch := omega) only [go_sem, simprocAttr])
   rw [ho]
   exact hR1 (a + 1, hv + 8) _ (by simp only; omega) ⟨by simp only; omega, by simp only; omega, by simp only; omega⟩ (.le (by simp (disch := omega) only [go_sem, simprocAttr, rdA, show 8 * (a + 1) - (hv + 8) = 8 * a - hv by omega]))
  ·simp (disch := omega) only [go_sem, simprocAttr, rdA]
   (repeat (first | refine gskip_of ?_ | refine gcskip_of ?_ | refine gopen_of ?_) <;> simp (disch := omega) only [go_sem, simprocAttr])
   exact hR.le (by simp (disch := omega) only [go_sem, simprocAttr, rdA]) ⟨a, hv, ⟨h1, h2, h3⟩, .inr (by omega), rfl, rfl, rfl⟩
 ·simp (disch := omega) only [go_sem, simprocAttr, rdA]
  (repeat (first | refine gskip_of ?_ | refine gcskip_of ?_ | refine gopen_of ?_) <;> simp (disch := omega) only [go_sem, simprocAttr])
  exact hR.le (by simp (disch := omega) only [go_sem, simprocAttr, rdA]) ⟨a, hv, ⟨h1, h2, h3⟩, .inl (by omega), rfl, rfl, rfl⟩
theorem and_mask (x n : Nat) (hx : x < 2 ^ 64) (hn : n ≤ 32) : bits .and .u64 (x : Int) (IntKind.u64.wrap (IntKind.u64.wrap (1 * 2 ^ min n 64) - 1)) = ((x % 2 ^ n : Nat) : Int) := by
 have hp : 2 ^ n ≤ 2 ^ 32 := Nat.pow_le_pow_right (by decide) hn
 have hp1 : 0 < 2 ^ n := Nat.pow_pos (by decide)
 have e : IntKind.u64.wrap (IntKind.u64.wrap (1 * 2 ^ min n 64) - 1) = ((2 ^ n - 1 : Nat) : Int) := by
  have e1 : IntKind.u64.wrap (1 * 2 ^ n) = ((2 ^ n : Nat) : Int) := by
   rw [show ((1 : Int) * 2 ^ n) = ((2 ^ n : Nat) : Int) by rw [Int.one_mul]; push_cast; rfl]
   exact wrap_u64 (by omega)
  rw [Nat.min_eq_left (by omega), e1, show (((2 ^ n : Nat) : Int) - 1) = ((2 ^ n - 1 : Nat) : Int) by omega]
  exact wrap_u64 (by omega)
 rw [e]
 show IntKind.u64.wrap ((BitVec.ofInt 64 (x : Int) &&& BitVec.ofInt 64 ((2 ^ n - 1 : Nat) : Int)).toNat : Int) = _
 rw [BitVec.ofInt_natCast, BitVec.ofInt_natCast, BitVec.toNat_and, BitVec.toNat_ofNat, BitVec.toNat_ofNat, Nat.mod_eq_of_lt hx, Nat.mod_eq_of_lt (by omega), Nat.and_two_pow_sub_one_eq_mod]
 have := Nat.mod_lt x hp1
 exact wrap_u64 (by omega)
def leftB (s : Bs) (p : Nat) : Nat := 8 * s.length - p
theorem peek_ok (s : Bs) (a hv fr p n : Nat) (hs : s.length ≤ 1000000000000) (h : RdOK s a hv p) (hn : n ≤ 32) : Eng.Spec Tryd.prog 85 [(RD, .var (rdA s a hv fr))] [.vptr RD 0, .int .i64 n]
    (fun h' v ar => ∃ a' hv', RdOK s a' hv' p ∧ (n ≤ hv' ∨ a' = s.length) ∧ h' = [(RD, .var (rdA s a' hv' fr))] ∧ v = .tup [.int .u32 (numAt s p (min n hv') : Nat), .int .i64 (min n hv' : Nat)] ∧ ar = [.vptr RD 0, .int .i64 n]) := by
 refine Cod.peek_spec (fun E R hN hR => ?_)
 simp (disch := omega) only [go_sem, simprocAttr]
 (repeat (first | refine gskip_of ?_ | refine gcskip_of ?_ | refine gopen_of ?_) <;> simp (disch := omega) only [go_sem, simprocAttr])
 refine call_win [(RD, .var (rdA s a hv fr))] (fill_ok s a hv fr p n hs h hn) (by simp (disch := omega) only [go_sem, simprocAttr]) nofun ?_
 rintro h' v ar ⟨a', hv', ⟨h1, h2, h3⟩, hor, rfl, rfl, rfl⟩
 refine ⟨by simp (disch := omega) only [go_sem, simprocAttr, rdA], rfl, ?_⟩
 have hx := num_lt s p hv'
 have hx2 : numAt s p hv' < 2 ^ 64 := Nat.lt_of_lt_of_le hx (Nat.pow_le_pow_right (by decide) (by omega))
 have ha := and_mask (numAt s p hv') n hx2 hn
 have e1 : numAt s p hv' % 2 ^ n = numAt s p (min n hv') := by
  by_cases hh : n ≤ hv'
  ·rw [Nat.min_eq_left hh, num_mod s p hh]
  ·rw [Nat.min_eq_right (by omega), Nat.mod_eq_of_lt (Nat.lt_of_lt_of_le hx (Nat.pow_le_pow_right (by decide) (by omega)))]
 rw [e1] at ha
 have hx3 : numAt s p (min n hv') < 2 ^ 32 := Nat.lt_of_lt_of_le (num_lt s p _) (Nat.pow_le_pow_right (by decide) (by omega))
 have ew : IntKind.u32.wrap ((numAt s p (min n hv') : Nat) : Int) = (numAt s p (min n hv') : Nat) := wrap_u32 (by omega)
 have em : min (n : Int) (hv' : Int) = ((min n hv' : Nat) : Int) := by omega
 simp (disch := omega) only [go_sem, simprocAttr, rdA, show 8 * a' - hv' = p by omega, ha, ew, em]
 exact hR.le (by simp (disch := omega) only [go_sem, simprocAttr, rdA, show 8 * a' - hv' = p by omega]) ⟨a', hv', ⟨h1, h2, h3⟩, hor, rfl, rfl, rfl⟩
theorem skip_ok (s : Bs) (a hv fr p n : Nat) (hs : s.length ≤ 1000000000000) (h : RdOK s a hv p) (hn : n ≤ 32) : Eng.Spec Tryd.prog 86 [(RD, .var (rdA s a hv fr))] [.vptr RD 0, .int .i64 n]
    (fun h' v ar => ∃ a' hv', RdOK s a' hv' (if n ≤ leftB s p then p + n else p) ∧ h' = [(RD, .var (rdA s a' hv' fr))] ∧ v = .bool (decide (n ≤ leftB s p)) ∧ ar = [.vptr RD 0, .int .i64 n]) := by
 refine Cod.skip_spec (fun E R hN hR => ?_)
 simp (disch := omega) only [go_sem, simprocAttr]
 (repeat (first | refine gskip_of ?_ | refine gcskip_of ?_ | refine gopen_of ?_) <;> simp (disch := omega) only [go_sem, simprocAttr])
 refine call_win [(RD, .var (rdA s a hv fr))] (fill_ok s a hv fr p n hs h hn) (by simp (disch := omega) only [go_sem, simprocAttr]) nofun ?_
 rintro h' v ar ⟨a', hv', ⟨h1, h2, h3⟩, hor, rfl, rfl, rfl⟩
 refine ⟨by simp (disch := omega) only [go_sem, simprocAttr, rdA], rfl, ?_⟩
 by_cases hlt : hv' < n
 ·have hno : ¬ n ≤ leftB s p := by unfold leftB; rcases hor with ho | ho <;> omega
  simp (disch := omega) only [go_sem, simprocAttr, rdA]
  exact hR.le (by simp (disch := omega) only [go_sem, simprocAttr, rdA]) ⟨a', hv', by rw [if_neg hno]; exact ⟨h1, h2, h3⟩, rfl, by rw [decide_eq_false hno], rfl⟩
 ·have hyes : n ≤ leftB s p := by unfold leftB; omega
  have hd : ((numAt s p hv' : Nat) : Int).fdiv (2 ^ min n 64) = ((numAt s (p + n) (hv' - n) : Nat) : Int) := by
   rw [Nat.min_eq_left (by omega), ← num_div s p (show n ≤ hv' by omega), Int.fdiv_eq_ediv_of_nonneg _ (Int.pow_nonneg (by decide)), Int.natCast_ediv, Int.natCast_pow]; rfl
  simp (disch := omega) only [go_sem, simprocAttr, rdA, show 8 * a' - hv' = p by omega, hd]
  refine hR.le ?_ ⟨a', hv' - n, by rw [if_pos hyes]; exact ⟨by omega, h2, by omega⟩, rfl, by rw [decide_eq_true hyes], rfl⟩
  rw [show ((hv' : Int) - (n : Int)) = ((hv' - n : Nat) : Int) by omega]
  simp (disch := omega) only [go_sem, simprocAttr, rdA, show 8 * a' - (hv' - n) = p + n by omega]
theorem rbits_ok (s : Bs) (a hv fr p n : Nat) (hs : s.length ≤ 1000000000000) (h : RdOK s a hv p) (hn : n ≤ 32) : Eng.Spec Tryd.prog 77 [(RD, .var (rdA s a hv fr))] [.vptr RD 0, .int .i64 n]
    (fun h' v ar => ∃ a' hv', RdOK s a' hv' (if n ≤ leftB s p then p + n else p) ∧ h' = [(RD, .var (rdA s a' hv' fr))] ∧ v = .tup [.int .u32 (if n ≤ leftB s p then numAt s p n else 0 : Nat), .bool (decide (n ≤ leftB s p))] ∧ ar = [.vptr RD 0, .int .i64 n]) := by
 refine Cod.rbits_spec (fun E R hN hR => ?_)
 simp (disch := omega) only [go_sem, simprocAttr]
 refine call_win [(RD, .var (rdA s a hv fr))] (peek_ok s a hv fr p n hs h hn) (by simp (disch := omega) only [go_sem, simprocAttr]) nofun ?_
 rintro h' v ar ⟨a', hv', h1, hor, rfl, rfl, rfl⟩
 refine ⟨by simp (disch := omega) only [go_sem, simprocAttr, rdA], rfl, ?_⟩
 simp (disch := omega) only [go_sem, simprocAttr]
 refine call_win [(RD, .var (rdA s a' hv' fr))] (skip_ok s a' hv' fr p n hs h1 hn) (by simp (disch := omega) only [go_sem, simprocAttr]) nofun ?_
 rintro h' v ar ⟨a2, hv2, h2, rfl, rfl, rfl⟩
 refine ⟨by simp (disch := omega) only [go_sem, simprocAttr, rdA], rfl, ?_⟩
 by_cases hyes : n ≤ leftB s p
 ·have hm : min n hv' = n := by
   have := h1.h3; have := h1.h2
   unfold leftB at hyes
   rcases hor with ho | ho <;> omega
  simp (disch := omega) only [go_sem, simprocAttr, hyes, hm]
  exact hR.le (by simp (disch := omega) only [go_sem, simprocAttr]) ⟨a2, hv2, h2, rfl, by rw [if_pos hyes, decide_eq_true hyes], rfl⟩
 ·simp (disch := omega) only [go_sem, simprocAttr, hyes]
  exact hR.le (by simp (disch := omega) only [go_sem, simprocAttr]) ⟨a2, hv2, h2, rfl, by rw [if_neg hyes, decide_eq_false hyes]; rfl, rfl⟩
def upB (p : Nat) : Nat := (p + 7) / 8 * 8
theorem up_at {a hv p : Nat} (h : p + hv = 8 * a) : upB p = 8 * (a - hv / 8) := by unfold upB; omega
theorem ralign_ok (s : Bs) (a hv fr p : Nat) (hs : s.length ≤ 1000000000000) (h : RdOK s a hv p) : Eng.Spec Tryd.prog 96 [(RD, .var (rdA s a hv fr))] [.vptr RD 0]
    (fun h' v ar => ∃ hv', RdOK s a hv' (upB p) ∧ hv' = 8 * (hv / 8) ∧ h' = [(RD, .var (rdA s a hv' fr))] ∧ v = .tup [] ∧ ar = [.vptr RD 0]) := by
 refine Cod.ralign_spec (fun E R hN hR => ?_)
 obtain ⟨h1, h2, h3⟩ := h
 have hp : 8 * a - hv = p := by omega
 have em : (hv : Int).tmod 8 = ((hv % 8 : Nat) : Int) := by rw [tmod_pos (by omega)]; omega
 have hd : ((numAt s p hv : Nat) : Int).fdiv (2 ^ min (hv % 8) 64) = ((numAt s (p + hv % 8) (hv - hv % 8) : Nat) : Int) := by
  rw [Nat.min_eq_left (by omega), ← num_div s p (show hv % 8 ≤ hv by omega), Int.fdiv_eq_ediv_of_nonneg _ (Int.pow_nonneg (by decide)), Int.natCast_ediv, Int.natCast_pow]; rfl
 simp (disch := omega) only [go_sem, simprocAttr, rdA, em, hp, hd]
 refine hR.le ?_ ⟨8 * (hv / 8), ⟨by omega, h2, by unfold upB; omega⟩, rfl, rfl, rfl, rfl⟩
 rw [show ((hv : Int) - ((hv % 8 : Nat) : Int)) = ((8 * (hv / 8) : Nat) : Int) by omega, show hv - hv % 8 = 8 * (hv / 8) by omega]
 simp (disch := omega) only [go_sem, simprocAttr, rdA, show 8 * a - 8 * (hv / 8) = p + hv % 8 by omega]
theorem rbytes_ok (s : Bs) (a hv fr p : Nat) (n : Nat) (hs : s.length ≤ 1000000000000) (hn : n ≤ 1000000000000) (h : RdOK s a hv p) : Eng.Spec Tryd.prog 87 [(RD, .var (rdA s a hv fr))] [.vptr RD 0, .int .i64 n]
    (fun h' v ar => ∃ a' hv', RdOK s a' hv' (if n ≤ s.length - upB p / 8 then upB p + 8 * n else upB p) ∧ (n ≤ s.length - upB p / 8 → hv' = 0) ∧ h' = [(RD, .var (rdA s a' hv' fr))] ∧
     v = .tup [.str (if n ≤ s.length - upB p / 8 then (s.drop (upB p / 8)).take n else []), .bool (decide (n ≤ s.length - upB p / 8))] ∧ ar = [.vptr RD 0, .int .i64 n]) := by
 refine Cod.rbytes_spec (fun E R hN hR => ?_)
 simp (disch := omega) only [go_sem, simprocAttr]
 refine call_win [(RD, .var (rdA s a hv fr))] (ralign_ok s a hv fr p hs h) (by simp (disch := omega) only [go_sem, simprocAttr]) nofun ?_
 rintro h' v ar ⟨hv', ⟨h1, h2, h3⟩, rfl, rfl, rfl, rfl⟩
 refine ⟨by simp (disch := omega) only [go_sem, simprocAttr, rdA], rfl, ?_⟩
 have hub : upB p / 8 = a - hv / 8 := by rw [up_at h.h3]; omega
 have hle := h.h3
 have eq : (((8 * (hv / 8) : Nat) : Int)).tdiv 8 = ((hv / 8 : Nat) : Int) := by rw [tdiv_pos (by omega)]; omega
 have ef : ((a : Int) - ((hv / 8 : Nat) : Int)) = ((a - hv / 8 : Nat) : Int) := by omega
 rw [hub] at hR
 generalize hf : a - hv / 8 = f at *
 have hfl : f ≤ s.length := by omega
 by_cases hyes : n ≤ s.length - f
 ·have e1 : ((f : Int) + (n : Int) - (f : Int)).toNat = n := by omega
  have e2 : f + n - f = n := by omega
  simp (disch := omega) only [go_sem, simprocAttr, rdA, eq, ef]
  (repeat (first | refine gskip_of ?_ | refine gcskip_of ?_ | refine gopen_of ?_) <;> simp (disch := omega) only [go_sem, simprocAttr])
  simp (disch := omega) only [go_sem, simprocAttr, e2]
  exact hR.le (by simp (disch := omega) only [go_sem, simprocAttr, rdA, numAt]) ⟨f + n, 0, by rw [if_pos hyes]; exact ⟨by omega, by omega, by rw [up_at h.h3, hf]; omega⟩, fun _ => rfl, rfl, by rw [if_pos hyes, decide_eq_true hyes], rfl⟩
 ·simp (disch := omega) only [go_sem, simprocAttr, rdA, eq, ef]
  (repeat (first | refine gskip_of ?_ | refine gcskip_of ?_ | refine gopen_of ?_) <;> simp (disch := omega) only [go_sem, simprocAttr])
  exact hR.le (by simp (disch := omega) only [go_sem, simprocAttr, rdA]) ⟨a, 8 * (hv / 8), by rw [if_neg hyes]; exact ⟨h1, h2, h3⟩, fun hh => absurd hh hyes, rfl, by rw [if_neg hyes, decide_eq_false hyes], rfl⟩
end Go.Proofs.YtjoefngnjoofeaaDoor.Pk
namespace Go.Proofs.YtjoefngnjoofeaaDoor.Pk
open Eng
set_option maxRecDepth 10000
def nats (xs : List Nat) : List AV := xs.map fun n : Nat => AV.int .i64 n
theorem nats_len (xs : List Nat) : (nats xs).length = xs.length := by simp [nats]
theorem nth_nats {xs : List Nat} {i : Nat} (h : i < xs.length) : nth (nats xs) i = .int .i64 (xs.getD i 0 : Nat) := by
 simp [nth, nats, List.getD_eq_getElem?_getD, h]
theorem nats_cells {xs : List Nat} : (nats xs).all cellsOK = true := by simp [nats, cellsOK, cellsOf, isCell]
theorem nats_app {xs : List Nat} {n : Nat} : nats xs ++ [.int .i64 (n : Int)] = nats (xs ++ [n]) := by simp [nats]
theorem nats_sub {xs : List Nat} {o n : Nat} : sub3 (nats xs) o n = nats ((xs.drop o).take n) := by simp [nats, sub3]
theorem nats_nil : nats [] = [] := (rfl)
def cntsA (l : List Nat) : List AV := (List.range 16).map fun n => AV.int .i64 (cntL l n : Nat)
theorem cnts_len (l : List Nat) : (cntsA l).length = 16 := by simp [cntsA]
theorem cnts_get (l : List Nat) {n : Nat} (h : n < 16) : (cntsA l).getD n .undef = .int .i64 (cntL l n : Nat) := by
 unfold cntsA
 rw [List.getD_eq_getElem?_getD, List.getElem?_map, List.getElem?_range h]; rfl
theorem cnts_step (l : List Nat) {x : Nat} (h : x < 16) : (cntsA l).set x (.int .i64 ((cntL l x : Int) + 1)) = cntsA (l ++ [x]) := by
 apply List.ext_getElem?
 intro j
 rw [List.getElem?_set, cnts_len]
 unfold cntsA
 rw [List.getElem?_map, List.getElem?_map]
 by_cases hx : x = j
 ·subst hx
  rw [if_pos rfl, if_pos h, List.getElem?_range h]
  simp only [Option.map_some, cnt_snoc, if_true]
  rfl
 ·rw [if_neg hx]
  by_cases hj : j < 16
  ·rw [List.getElem?_range hj]
   simp only [Option.map_some, cnt_snoc, if_neg hx, Nat.add_zero]
  ·rw [List.getElem?_eq_none (by simp; omega)]; rfl
theorem cnts_kill {id : Nat} {l : List Nat} : (cntsA l).map (killC id) = cntsA l := by simp [cntsA, killC]
theorem cnts_frz {id sz : Nat} {es : List AV} {l : List Nat} : (cntsA l).map (frzC id sz es) = cntsA l := by simp [cntsA, frzC]
theorem cnts_ref {l : List Nat} : (cntsA l).all noRefC = true := by simp [cntsA, noRefC]
theorem cnt_le (l : List Nat) (n : Nat) : cntL l n ≤ l.length := List.countP_le_length
theorem pre_le (l : List Nat) : ∀ n, preL l n ≤ l.length * n
 | 0 => by simp [preL]
 | 1 => by simp [preL]
 | n + 2 => by
  have := pre_le l (n + 1)
  have := cnt_le l (n + 1)
  simp only [preL]
  rw [show n + 2 = (n + 1) + 1 by omega, Nat.mul_succ l.length (n + 1)]
  omega
def symsTo (l : List Nat) (n k : Nat) : List Nat := (List.range k).filter fun s => l.getD s 0 == n
theorem symsTo_len (l : List Nat) (n k : Nat) : (symsTo l n k).length ≤ k := by
 have := List.length_filter_le (fun s => l.getD s 0 == n) (List.range k)
 simpa [symsTo] using this
theorem symsTo_succ (l : List Nat) (n k : Nat) : symsTo l n (k + 1) = symsTo l n k ++ if l.getD k 0 = n then [k] else [] := by
 unfold symsTo
 rw [List.range_succ, List.filter_append]
 congr 1
 by_cases h : l.getD k 0 = n <;> simp [-List.getD_eq_getElem?_getD, h]
theorem symsTo_all (l : List Nat) (n : Nat) : symsTo l n l.length = symsL l n := (rfl)
theorem mid_drop {a b : AV} {xs : List AV} {i : Nat} (h : i < xs.length) : ((a :: (xs ++ [b])).drop (1 + i)).getD 0 .undef = xs.getD i .undef := by
 rw [Nat.add_comm, List.drop_succ_cons, List.getD_eq_getElem?_getD, List.getElem?_drop, Nat.add_zero, List.getElem?_append_left h, List.getD_eq_getElem?_getD]
theorem mid_len {a b : AV} {xs : List AV} {i : Nat} (h : i < xs.length) : 0 < ((a :: (xs ++ [b])).drop (1 + i)).length := by simp; omega
theorem mid_seg {a b v : AV} {xs : List AV} {i : Nat} (h : i < xs.length) : seg (a :: (xs ++ [b])) (1 + i) [v] = a :: (xs.set i v ++ [b]) := by
 unfold seg
 rw [Nat.add_comm 1 i, List.take_succ_cons, show i + 1 + [v].length = (i + 1) + 1 by simp, List.drop_succ_cons, List.take_append_of_le_length (by omega), List.drop_append_of_le_length (by omega), List.set_eq_take_append_cons_drop, if_pos h]
 simp
theorem end_seg {a b v : AV} {xs : List AV} (h : xs.length = 16) : seg (a :: (xs ++ [b])) 17 [v] = a :: (xs ++ [v]) := by
 unfold seg
 rw [List.take_succ_cons, show 17 + [v].length = 17 + 1 by rfl, List.drop_succ_cons, List.take_left' h, List.drop_append]
 simp [h]
theorem end_set {a b v : AV} {xs : List AV} (h : xs.length = 16) : (a :: (xs ++ [b])).set 17 v = a :: (xs ++ [v]) := by
 rw [List.set_cons_succ, List.set_append_right _ _ (by omega), h]; rfl
theorem end_get {a b : AV} {xs : List AV} (h : xs.length = 16) : (a :: (xs ++ [b]))[17]? = some b := by
 rw [List.getElem?_cons_succ, List.getElem?_append_right (by omega), h]; rfl
theorem end_drop {a b : AV} {xs : List AV} (h : xs.length = 16) : (a :: (xs ++ [b])).drop 17 = [b] := by
 rw [List.drop_succ_cons, List.drop_left' h]
def tblC (l : List Nat) : List AV := .ro 1 (nats l) :: (cntsA l ++ [.ro 1 (nats (sortL l 15))])
def tblA (l : List Nat) : AV := .elt (.agg (tblC l))
def roomL (l : List Nat) (m : Nat) : Int := if m = 0 then 1 else (2 ^ m : Nat) - ((fstL l m + cntL l m : Nat) : Int)
theorem room_step (l : List Nat) (m : Nat) : roomL l (m + 1) = 2 * roomL l m - (cntL l (m + 1) : Int) := by
 unfold roomL
 cases m with
 | zero => simp [fstL]
 | succ m =>
  rw [if_neg (by omega), if_neg (by omega)]
  simp only [fstL]
  rw [Nat.pow_succ 2 (m + 1)]
  omega
theorem room_le (l : List Nat) {m : Nat} (h : m ≤ 15) : roomL l m ≤ 32768 := by
 unfold roomL
 have : (2 : Nat) ^ m ≤ 2 ^ 15 := Nat.pow_le_pow_right (by decide) h
 split <;> omega
theorem room_neg (l : List Nat) {m : Nat} (h1 : 1 ≤ m) (h2 : m ≤ 15) (h : roomL l m < 0) : 32768 < totL l := by
 refine Nat.lt_of_not_le fun hc => ?_
 have := kraft hc h1 h2
 unfold roomL at h
 rw [if_neg (by omega)] at h
 omega
theorem room_end (l : List Nat) : roomL l 15 = 32768 - (totL l : Int) := by
 unfold roomL totL
 rw [if_neg (by omega)]
 rfl
theorem hnew_ok (l : List Nat) (hl : ∀ n ∈ l, n ≤ 15) (hn : l.length ≤ 320) : Eng.Spec Tryd.prog 71 [] [.ro 1 (nats l)] (fun h r _ => h = [] ∧ r = if chkL l then .tup [tblA l, .int .i64 0] else .tup [.lit (.pointer none), .int .i64 4]) := by
 refine Cod.hnew_spec (fun E R hN hR => ?_)
 have hnl := nats_len l
 simp (disch := first | omega | (simp only [Lx]; omega)) only [go_sem, simprocAttr, nats_len, nats_cells]
 (repeat (first | refine gskip_of ?_ | refine gcskip_of ?_ | refine gopen_of ?_) <;> simp (disch := first | omega | (simp only [Lx]; omega)) only [go_sem, simprocAttr])
 refine vcW_loop hN (fun k : Nat => ⟨[(0, .ro 1 (nats l)), (4, .vptr 49018 0), (19, .ro 1 (nats l)), (20, .int .i64 l.length), (21, .int .i64 k)], [(49018, .var (.sl 49016 0 l.length :: (cntsA (l.take k) ++ [.nilsl]))), (49016, .arr 1 (nats l))]⟩) (fun k => k ≤ l.length) (fun k => l.length - k) 0 (.le (by simp (disch := first | omega | (simp only [Lx]; omega)) only [go_sem, simprocAttr, nats_len]; rfl)) (by omega) ?_
 rintro k R1 hk hR1
 have hcl := cnts_len (l.take k)
 by_cases hlt : k < l.length
 ·have hx := len15 hl k
  have htk := take_snoc l 0 hlt
  have hcs := cnts_step (l.take k) (x := l.getD k 0) (by omega)
  have hcb := cnt_le (l.take k) (l.getD k 0)
  rw [List.length_take] at hcb
  rw [← htk] at hcs
  generalize hc : l.getD k 0 = x at *
  simp (disch := first | omega | (simp only [Lx]; omega)) only [go_sem, simprocAttr, nats_len, nth_nats, hc, mid_drop, mid_len, cnts_get, mid_seg, Nat.mul_one]
  (repeat (first | refine gskip_of ?_ | refine gcskip_of ?_ | refine gopen_of ?_) <;> simp (disch := first | omega | (simp only [Lx]; omega)) only [go_sem, simprocAttr])
  rw [hcs]
  exact hR1 (k + 1) _ (by omega) (by omega) (.le (by simp (disch := first | omega | (simp only [Lx]; omega)) only [go_sem, simprocAttr]))
 ·obtain rfl : k = l.length := by omega
  simp (disch := first | omega | (simp only [Lx]; omega)) only [go_sem, simprocAttr, nats_len]
  have hcl := cnts_len l
  refine vcW_loop hN (fun m : Nat => ⟨[(0, .ro 1 (nats l)), (4, .vptr 49018 0), (7, .int .i64 (roomL l m)), (8, .int .i64 (preL l (m + 1) : Nat)), (9, .int .i64 ((m : Int) + 1))],
   [(49018, .var (.sl 49016 0 l.length :: (cntsA l ++ [.sl 49082 0 (sortL l m).length]))), (49016, .arr 1 (nats l)), (49082, .arr 1 (nats (sortL l m)))]⟩) (fun m => m ≤ 15 ∧ 0 ≤ roomL l m) (fun m => 15 - m) 0
   (.nilV 49018 17 49082 1 (.sl 49016 0 l.length :: (cntsA l ++ [.nilsl])) rfl (end_get hcl) rfl (.le (by simp (disch := first | omega | (simp only [Lx]; omega)) only [go_sem, simprocAttr, List.map_append, cnts_kill, end_set, sortL, nats_nil, roomL, preL]))) ⟨by omega, by show (0 : Int) ≤ 1; decide⟩ ?_
  rintro m R2 ⟨hm, hr⟩ hR2
  by_cases hlt : m < 15
  ·have hst := room_step l m
   have hrl := room_le l hm
   have hcb := cnt_le l (m + 1)
   have hpb := pre_le l (m + 1)
   have hpb2 : l.length * (m + 1) ≤ 320 * 16 := Nat.mul_le_mul hn (by omega)
   have hsl := sort_len l m
   simp (disch := first | omega | (simp only [Lx]; omega)) only [go_sem, simprocAttr, nats_len, mid_drop, mid_len, cnts_get, Nat.mul_one]
   rw [← hst]
   refine ifW_dec (fun hneg => ?_) (fun hneg => ?_)
   ·have hbad := room_neg l (by omega) (by omega) hneg
    have hck : chkL l = false := by unfold chkL; rw [decide_eq_false (by omega)]; rfl
    simp (disch := first | omega | (simp only [Lx]; omega)) only [go_sem, simprocAttr, hck]
    exact hR.ro ⟨rfl, by rw [hck]; rfl⟩
   ·simp (disch := first | omega | (simp only [Lx]; omega)) only [go_sem, simprocAttr, nats_len]
    refine vcW_loop hN (fun k : Nat => ⟨[(0, .ro 1 (nats l)), (4, .vptr 49018 0), (7, .int .i64 (roomL l (m + 1))), (8, .int .i64 (preL l (m + 2) : Nat)), (9, .int .i64 ((m : Int) + 1)), (65, .ro 1 (nats l)), (66, .int .i64 l.length), (67, .int .i64 k)],
     [(49018, .var (.sl 49016 0 l.length :: (cntsA l ++ [.sl 49082 0 (sortL l m ++ symsTo l (m + 1) k).length]))), (49016, .arr 1 (nats l)), (49082, .arr 1 (nats (sortL l m ++ symsTo l (m + 1) k)))]⟩) (fun k => k ≤ l.length) (fun k => l.length - k) 0
     (.le (by simp (disch := first | omega | (simp only [Lx]; omega)) only [go_sem, simprocAttr, symsTo, List.range_zero, List.filter_nil, List.append_nil, preL])) (by omega) ?_
    rintro k R3 hk hR3
    by_cases hlt3 : k < l.length
    ·have htl := symsTo_len l (m + 1) k
     have hsu := symsTo_succ l (m + 1) k
     by_cases hx : l.getD k 0 = m + 1
     ·rw [if_pos hx] at hsu
      simp (disch := first | omega | (simp only [Lx]; omega)) only [go_sem, simprocAttr, nats_len, nth_nats, hx, end_drop, nats_cells, nats_sub, List.map_append, cnts_kill, end_seg]
      refine hR3 (k + 1) _ (by omega) (by omega) (.le ?_)
      rw [hsu, ← List.append_assoc, ← nats_app]
      simp (disch := first | omega | (simp only [Lx]; omega)) only [go_sem, simprocAttr, nats_len]
     ·rw [if_neg hx, List.append_nil] at hsu
      simp (disch := first | omega | (simp only [Lx]; omega)) only [go_sem, simprocAttr, nats_len, nth_nats, end_drop, nats_cells, nats_sub]
      exact hR3 (k + 1) _ (by omega) (by omega) (.le (by rw [hsu]; simp (disch := first | omega | (simp only [Lx]; omega)) only [go_sem, simprocAttr]))
    ·obtain rfl : k = l.length := by omega
     simp (disch := first | omega | (simp only [Lx]; omega)) only [go_sem, simprocAttr, nats_len]
     refine hR2 (m + 1) _ (by omega) ⟨by omega, by omega⟩ (.le ?_)
     rw [symsTo_all]
     simp (disch := first | omega | (simp only [Lx]; omega)) only [go_sem, simprocAttr, sortL]
  ·obtain rfl : m = 15 := by omega
   have hre := room_end l
   have hpn := pre_num l hl
   have hsl := sort_len l 15
   have yes : chkL l = true → R [(49018, .var (.sl 49016 0 l.length :: (cntsA l ++ [.sl 49082 0 (sortL l 15).length]))), (49016, .arr 1 (nats l)), (49082, .arr 1 (nats (sortL l 15)))] (.tup [.vptr 49018 0, .int .i64 0]) [.undef] := by
    intro hck
    rw [hck] at hR
    refine hR.wk (h' := []) (r' := .tup [tblA l, .int .i64 0]) (ar' := [.undef]) rfl (.frz 49016 (.frz 49082 (.frzT 0 0 49018 [.vptr 49018 0, .int .i64 0] (tblC l) (by simp (disch := first | omega | (simp only [Lx]; omega)) only [go_sem, simprocAttr]) (by rfl) ?_ ?_ (.le ?_)))) ⟨rfl, by rfl⟩
    ·simp (disch := first | omega | (simp only [Lx]; omega)) only [go_sem, simprocAttr, List.map_append, cnts_frz, nats_sub, nats_len, take_all, tblC]
    ·simp [tblC, noRefC, cnts_ref]
    ·simp (disch := first | omega | (simp only [Lx]; omega)) only [go_sem, simprocAttr, tblA]
   have no : chkL l = false → ∀ h, R h (.tup [.lit (.pointer none), .int .i64 4]) [.undef] := by
    intro hck h
    rw [hck] at hR
    exact hR.ro ⟨rfl, rfl⟩
   have hp16 : preL l (15 + 1) = numL l := hpn
   have hone : ∀ x, ((cntsA l ++ [x]).drop 1).getD 0 .undef = .int .i64 (cntL l 1 : Nat) := fun x => by
    have := mid_drop (a := .undef) (b := x) (xs := cntsA l) (i := 1) (by omega)
    rw [cnts_get l (by omega)] at this
    exact this
   have honl : ∀ x, 0 < ((cntsA l ++ [x]).drop 1).length := fun x => by simp; omega
   by_cases ha : 0 < roomL l 15
   ·by_cases hb : numL l = 0
    ·have hck : chkL l = true := by unfold chkL; rw [decide_eq_true (show totL l ≤ 32768 by omega), decide_eq_true hb]; simp
     simp (disch := first | omega | (simp only [Lx]; omega)) only [go_sem, simprocAttr, hp16, hb]
     (repeat (first | refine gskip_of ?_ | refine gcskip_of ?_ | refine gopen_of ?_) <;> simp (disch := first | omega | (simp only [Lx]; omega)) only [go_sem, simprocAttr])
     exact yes hck
    ·by_cases hc : numL l = 1
     ·by_cases hd : cntL l 1 = 1
      ·have hck : chkL l = true := by unfold chkL; rw [decide_eq_true (show totL l ≤ 32768 by omega), decide_eq_true hc, decide_eq_true hd]; simp
       simp (disch := first | omega | (simp only [Lx]; omega)) only [go_sem, simprocAttr, hp16, hc, hone, honl, hd]
       (repeat (first | refine gskip_of ?_ | refine gcskip_of ?_ | refine gopen_of ?_) <;> simp (disch := first | omega | (simp only [Lx]; omega)) only [go_sem, simprocAttr, hone, honl, hd])
       exact yes hck
      ·have hck : chkL l = false := by unfold chkL; rw [decide_eq_false (show ¬ totL l = 32768 by omega), decide_eq_false hb, decide_eq_false hd]; simp
       simp (disch := first | omega | (simp only [Lx]; omega)) only [go_sem, simprocAttr, hp16, hc, hone, honl]
       (repeat (first | refine gskip_of ?_ | refine gcskip_of ?_ | refine gopen_of ?_) <;> simp (disch := first | omega | (simp only [Lx]; omega)) only [go_sem, simprocAttr, hone, honl])
       exact no hck _
     ·have hck : chkL l = false := by unfold chkL; rw [decide_eq_false (show ¬ totL l = 32768 by omega), decide_eq_false hb, decide_eq_false hc]; simp
      simp (disch := first | omega | (simp only [Lx]; omega)) only [go_sem, simprocAttr, hp16]
      (repeat (first | refine gskip_of ?_ | refine gcskip_of ?_ | refine gopen_of ?_) <;> simp (disch := first | omega | (simp only [Lx]; omega)) only [go_sem, simprocAttr])
      exact no hck _
   ·have hck : chkL l = true := by unfold chkL; rw [decide_eq_true (show totL l ≤ 32768 by omega), decide_eq_true (show totL l = 32768 by omega)]; simp
    simp (disch := first | omega | (simp only [Lx]; omega)) only [go_sem, simprocAttr, hp16]
    (repeat (first | refine gskip_of ?_ | refine gcskip_of ?_ | refine gopen_of ?_) <;> simp (disch := first | omega | (simp only [Lx]; omega)) only [go_sem, simprocAttr])
    exact yes hck
theorem read_none {l : List Nat} (h : numL l = 0) (b : List Bool) : readL (codesL l) b = (0, 0, 3) := by
 have h0 : ∀ s, s < l.length → l.getD s 0 = 0 := by
  intro s hs
  refine Nat.eq_zero_of_not_pos fun hp => ?_
  unfold numL at h
  have := List.countP_eq_zero.1 h (l.getD s 0) (by rw [List.getD_eq_getElem?_getD, List.getElem?_eq_getElem hs]; exact List.getElem_mem hs)
  simp [-List.getD_eq_getElem?_getD] at this
  omega
 unfold readL
 rw [findIdx_none (fun s hs => hit_len (h0 s hs))]
 simp only
 rw [if_pos]
 rw [List.all_eq_true]
 intro c hc
 obtain ⟨s, hs, rfl⟩ := List.mem_map.1 hc
 unfold codeL
 rw [if_pos (h0 s (List.mem_range.1 hs))]; rfl
theorem or_bit {c b : Nat} (hc : c < 32768) (hb : b ≤ 1) : bits .or .i64 (IntKind.i64.wrap ((c : Int) * 2 ^ min 1 64)) (b : Int) = ((2 * c + b : Nat) : Int) := by
 rw [show ((c : Int) * 2 ^ min 1 64) = ((c * 2 : Nat) : Int) by push_cast; rfl, wrap_id (by omega)]
 show IntKind.i64.wrap ((BitVec.ofInt 64 ((c * 2 : Nat) : Int) ||| BitVec.ofInt 64 (b : Int)).toNat : Int) = _
 rw [BitVec.ofInt_natCast, BitVec.ofInt_natCast, BitVec.toNat_or, BitVec.toNat_ofNat, BitVec.toNat_ofNat, Nat.mod_eq_of_lt (by omega), Nat.mod_eq_of_lt (by omega)]
 have h1 : c * 2 ||| b = 2 * c + b := by
  have := Nat.shiftLeft_add_eq_or_of_lt (b := b) (i := 1) (by omega) c
  rw [Nat.shiftLeft_eq] at this
  rw [show c * 2 = c * 2 ^ 1 by rfl, ← this]
  omega
 rw [h1]
 exact wrap_id (by omega)
theorem tbl_sub (l : List Nat) : ((tblC l).drop 1).take 16 = cntsA l := by
 unfold tblC
 rw [List.drop_succ_cons, List.drop_zero, List.take_left' (cnts_len l)]
theorem tbl_srt (l : List Nat) : (tblC l).getD 17 .undef = .ro 1 (nats (sortL l 15)) := by
 unfold tblC
 rw [List.getD_cons_succ, List.getD_eq_getElem?_getD, List.getElem?_append_right (by rw [cnts_len]; omega), cnts_len]; rfl
theorem tbl_len (l : List Nat) : (tblC l).length = 18 := by simp [tblC, cnts_len]
set_option maxHeartbeats 1000000 in
theorem hread_ok (l : List Nat) (hl : ∀ n ∈ l, n ≤ 15) (hll : l.length ≤ 320) (hck : chkL l = true) (s : Bs) (a hv fr p : Nat) (hs : s.length ≤ 1000000000000) (h : RdOK s a hv p) : Eng.Spec Tryd.prog 80 [(RD, .var (rdA s a hv fr))] [tblA l, .vptr RD 0]
    (fun h' v ar => ∃ a' hv' p' k, RdOK s a' hv' p' ∧ h' = [(RD, .var (rdA s a' hv' fr))] ∧ v = .tup [.int .i64 (k : Nat), .int .i64 ((readL (codesL l) (restB s p)).2.2 : Nat)] ∧
     ((readL (codesL l) (restB s p)).2.2 = 0 → k = (readL (codesL l) (restB s p)).1 ∧ p' = p + (readL (codesL l) (restB s p)).2.1) ∧ ar = [tblA l, .vptr RD 0]) := by
 have hc : totL l ≤ 32768 := by unfold chkL at hck; simp at hck; exact hck.1
 refine Cod.hread_spec (fun E R hN hR => ?_)
 have hsl := sort_len l 15
 have hpn := pre_num l hl
 have hp16 : preL l (15 + 1) = numL l := hpn
 have htl := tbl_len l
 have hnum : numL l ≤ l.length := List.countP_le_length
 have hts := tbl_srt l
 have hnl := nats_len (sortL l 15)
 have hso : ∃ so, sortL l 15 = so := ⟨_, rfl⟩
 obtain ⟨so, hso⟩ := hso
 rw [hso] at hsl hts hnl
 by_cases h0 : numL l = 0
 ·have hr := read_none h0 (restB s p)
  rw [hr] at hR
  simp (disch := omega) only [go_sem, simprocAttr, tblA, htl, hts, hnl, hsl, hp16, h0]
  exact hR.le (by simp (disch := omega) only [go_sem, simprocAttr]) ⟨a, hv, p, 0, h, rfl, rfl, fun e => by simp at e, rfl⟩
 ·simp (disch := omega) only [go_sem, simprocAttr, tblA, htl, hts, hnl, hsl, hp16, h0]
  have hbl := rest_len s p
  generalize hb : restB s p = b at *
  refine vcW_loop hN (fun q : Nat × Nat × Nat => ⟨[(0, .elt (.agg (tblC l))), (1, .vptr 40014 0), (6, .int .i64 (msb (b.take q.1) : Nat)), (7, .int .i64 (fstL l (q.1 + 1) : Nat)), (8, .int .i64 (preL l (q.1 + 1) : Nat)), (9, .int .i64 ((q.1 : Int) + 1)),
   (2000000, .elt (.agg (tblC l))), (2000001, .vptr 40014 0)], [(40014, .var (rdA s q.2.1 q.2.2 fr))]⟩)
   (fun q => q.1 < 15 ∧ RdOK s q.2.1 q.2.2 (p + q.1) ∧ q.1 ≤ leftB s p ∧ NoHit l b (q.1 + 1) ∧ fstL l (q.1 + 1) ≤ 2 * msb (b.take q.1) ∧ preL l (q.1 + 1) < numL l) (fun q => 15 - q.1) (0, a, hv)
   (.le (by simp (disch := omega) only [go_sem, simprocAttr, msb, List.foldl_nil, fstL, preL])) ⟨by omega, h, by omega, fun s _ h1 h2 => by omega, by simp [fstL], by simp only [preL]; omega⟩ ?_
  rintro ⟨n, a, hv⟩ R1 ⟨hn, hrd, hlb, hno, hj, hpre⟩ hR1
  simp only at hn hrd hlb hno hj hpre
  have hmt := msb_lt (b.take n)
  have hmt2 : 2 ^ (b.take n).length ≤ 2 ^ 15 := Nat.pow_le_pow_right (by decide) (by rw [List.length_take]; omega)
  have hkr := kraft hc (n := n + 1) (by omega) (by omega)
  have hk2 : 2 ^ (n + 1) ≤ 2 ^ 15 := Nat.pow_le_pow_right (by decide) (by omega)
  simp (disch := omega) only [go_sem, simprocAttr, tblA]
  refine call_win [(RD, .var (rdA s a hv fr))] (rbits_ok s a hv fr (p + n) 1 hs hrd (by omega)) (by simp (disch := omega) only [go_sem, simprocAttr]) nofun ?_
  rintro h' v ar ⟨a', hv', hrd', rfl, rfl, rfl⟩
  refine ⟨by simp (disch := omega) only [go_sem, simprocAttr, rdA], rfl, ?_⟩
  unfold leftB at hlb
  by_cases hbit : 1 ≤ leftB s (p + n)
  ·rw [if_pos hbit] at hrd'
   have hbit2 := hbit
   unfold leftB at hbit2
   have hbn : n < b.length := by omega
   have hget : b.getD n false = bitB s (p + n) := by rw [← hb]; exact rest_get s p (by omega)
   have hms := msb_take b n hbn
   rw [hget, ← num_one] at hms
   have hx1 := num_lt s (p + n) 1
   have hle := lvl_le hbn hj
   have hob := or_bit (c := msb (b.take n)) (b := numAt s (p + n) 1) (by omega) (by omega)
   rw [← hms] at hob
   have hcl := cnts_len l
   have hpb := pre_le l (n + 1)
   have hpm := pre_mono l (n + 2) (16 - (n + 2))
   rw [show n + 2 + (16 - (n + 2)) = 16 by omega, hpn] at hpm
   have hps : preL l (n + 2) = preL l (n + 1) + cntL l (n + 1) := rfl
   have hfs : fstL l (n + 2) = 2 * (fstL l (n + 1) + cntL l (n + 1)) := rfl
   simp (disch := omega) only [go_sem, simprocAttr, hbit, hob, tbl_sub, htl, hcl, cnts_get]
   refine ifW_dec (fun hk => ?_) (fun hk => ?_)
   ·obtain ⟨k, hke⟩ : ∃ k, msb (b.take (n + 1)) = fstL l (n + 1) + k := ⟨msb (b.take (n + 1)) - fstL l (n + 1), by omega⟩
    obtain ⟨sy, g1, g2, g3⟩ := lvl_yes hc hl hn hbn hno hj hke (by omega)
    rw [hso] at g1
    rw [g3] at hR
    have ei : ((preL l (n + 1) : Nat) : Int) + (((msb (b.take (n + 1)) : Nat) : Int) - ((fstL l (n + 1) : Nat) : Int)) = ((preL l (n + 1) + k : Nat) : Int) := by omega
    simp (disch := omega) only [go_sem, simprocAttr, hts, htl, hnl, hsl, hp16, ei, nth_nats, g1]
    exact hR.le (by simp (disch := omega) only [go_sem, simprocAttr, tblA]) ⟨a', hv', p + n + 1, sy, hrd', rfl, rfl, fun _ => ⟨rfl, by show _ = p + (n + 1); omega⟩, rfl⟩
   ·obtain ⟨g1, g2⟩ := lvl_no hc hl hn hbn hno (by omega)
    have hw2 : (((fstL l (n + 1) : Nat) : Int) + ((cntL l (n + 1) : Nat) : Int)) * 2 ^ min 1 64 = ((fstL l (n + 2) : Nat) : Int) := by
     rw [hfs, show (2 : Int) ^ min 1 64 = 2 by decide]; push_cast; omega
    have ha2 : ((preL l (n + 1) : Nat) : Int) + ((cntL l (n + 1) : Nat) : Int) = ((preL l (n + 2) : Nat) : Int) := by rw [hps]; push_cast; rfl
    by_cases hend : preL l (n + 2) = numL l
    ·have hr := lvl_text (b := b) hl (n := n + 1) (by omega) (by omega) hend (by omega) g1
     rw [hr] at hR
     simp (disch := omega) only [go_sem, simprocAttr, tbl_sub, hts, htl, hcl, cnts_get, hw2, ha2, hnl, hsl, hp16, hend]
     exact hR.le (by simp (disch := omega) only [go_sem, simprocAttr, tblA]) ⟨a', hv', p + n + 1, 0, hrd', rfl, rfl, fun e => by simp at e, rfl⟩
    ·have hne : ¬ ((preL l (n + 2) : Nat) : Int) = ((numL l : Nat) : Int) := by omega
     have hn15 : n + 1 < 15 := by
      refine Nat.lt_of_not_le fun hh => ?_
      have : n = 14 := by omega
      subst this
      exact hend hpn
     simp (disch := omega) only [go_sem, simprocAttr, tbl_sub, hts, htl, hcl, cnts_get, hw2, ha2, hnl, hsl, hp16, hne]
     exact hR1 (n + 1, a', hv') _ (by simp only; omega) ⟨hn15, hrd', by simp only [leftB]; omega, g1, g2, by show preL l (n + 2) < _; omega⟩ (.le (by simp (disch := omega) only [go_sem, simprocAttr]))
  ·have hbn : b.length = n := by unfold leftB at hbit; omega
   rw [if_neg hbit] at hrd'
   have hr := lvl_end (b := b) hl hck (by omega) (by rw [hbn]; exact hpre) (by rw [hbn]; exact hno) (by rw [List.take_of_length_le (by omega)] at hj; rw [hbn]; exact hj)
   rw [hr] at hR
   simp (disch := omega) only [go_sem, simprocAttr, hbit]
   exact hR.le (by simp (disch := omega) only [go_sem, simprocAttr]) ⟨a', hv', p + n, 0, hrd', rfl, rfl, fun e => by simp at e, rfl⟩
end Go.Proofs.YtjoefngnjoofeaaDoor.Pk
namespace Go.Proofs.YtjoefngnjoofeaaDoor.Pk
open Eng
set_option maxRecDepth 10000
def numB (b : List Bool) : Nat := b.foldr (fun c a => 2 * a + c.toNat) 0
theorem numB_lt (b : List Bool) : numB b < 2 ^ b.length := by
 induction b with
 | nil => simp [numB]
 | cons c b ih =>
  have h1 : numB (c :: b) = 2 * numB b + c.toNat := rfl
  have : c.toNat ≤ 1 := by cases c <;> decide
  rw [h1, List.length_cons, Nat.pow_succ]; omega
theorem numB_snoc (b : List Bool) (c : Bool) : numB (b ++ [c]) = numB b + if c then 2 ^ b.length else 0 := by
 induction b with
 | nil => cases c <;> rfl
 | cons d b ih =>
  have h1 : ∀ b, numB (d :: b) = 2 * numB b + d.toNat := fun _ => rfl
  rw [List.cons_append, h1, h1, ih, List.length_cons, Nat.pow_succ]
  split <;> omega
theorem numB_at (s : Bs) (p : Nat) : ∀ n, p + n ≤ 8 * s.length → numB ((restB s p).take n) = numAt s p n
 | 0, _ => rfl
 | n + 1, h => by
  have hl := rest_len s p
  rw [take_snoc (restB s p) false (by omega), numB_snoc, numB_at s p n (by omega), rest_get s p (by omega), List.length_take, hl, Nat.min_eq_left (by omega)]
  rfl
end Go.Proofs.YtjoefngnjoofeaaDoor.Pk
namespace Go.Proofs.YtjoefngnjoofeaaDoor.Pk
open Eng
set_option maxRecDepth 10000
def lowB (x n : Nat) : List Bool := (List.range n).map x.testBit
theorem low_len (x n : Nat) : (lowB x n).length = n := by simp [lowB]
theorem numB_cons (c : Bool) (b : List Bool) : numB (c :: b) = 2 * numB b + c.toNat := by simp [numB]
theorem numB_append : ∀ (a b : List Bool), numB (a ++ b) = numB a + 2 ^ a.length * numB b
 | [], b => by simp [numB]
 | c :: a, b => by
  rw [List.cons_append, numB_cons, numB_cons, numB_append a b, List.length_cons, Nat.pow_succ]
  generalize 2 ^ a.length = q
  rw [Nat.mul_add, show q * 2 * numB b = 2 * (q * numB b) by rw [Nat.mul_comm q 2, Nat.mul_assoc]]
  omega
theorem numB_mod (l : List Bool) (m : Nat) : numB (l.take m) = numB l % 2 ^ m := by
 by_cases h : m ≤ l.length
 ·have e : numB l = numB (l.take m) + 2 ^ m * numB (l.drop m) := by
   have := numB_append (l.take m) (l.drop m)
   rwa [List.take_append_drop, List.length_take, Nat.min_eq_left h] at this
  have h1 := numB_lt (l.take m)
  rw [List.length_take, Nat.min_eq_left h] at h1
  rw [e, Nat.add_mul_mod_self_left, Nat.mod_eq_of_lt h1]
 ·rw [List.take_of_length_le (by omega), Nat.mod_eq_of_lt]
  exact Nat.lt_of_lt_of_le (numB_lt l) (Nat.pow_le_pow_right (by decide) (by omega))
theorem numB_div (l : List Bool) (m : Nat) : numB (l.drop m) = numB l / 2 ^ m := by
 by_cases h : m ≤ l.length
 ·have e : numB l = numB (l.take m) + 2 ^ m * numB (l.drop m) := by
   have := numB_append (l.take m) (l.drop m)
   rwa [List.take_append_drop, List.length_take, Nat.min_eq_left h] at this
  have h1 := numB_lt (l.take m)
  rw [List.length_take, Nat.min_eq_left h] at h1
  rw [e, Nat.add_mul_div_left _ _ (Nat.pow_pos (by decide)), Nat.div_eq_of_lt h1, Nat.zero_add]
 ·rw [List.drop_of_length_le (by omega), Nat.div_eq_of_lt]
  ·rfl
  ·exact Nat.lt_of_lt_of_le (numB_lt l) (Nat.pow_le_pow_right (by decide) (by omega))
theorem numB_low (x : Nat) : ∀ n, numB (lowB x n) = x % 2 ^ n
 | 0 => by simp [lowB, numB, Nat.mod_one]
 | n + 1 => by
  have e : lowB x (n + 1) = lowB x n ++ [x.testBit n] := by simp [lowB, List.range_succ]
  rw [e, numB_snoc, numB_low x n, low_len, sum_bits]
def byteN (bs : List Bool) (i : Nat) : UInt8 := UInt8.ofNat (numB (bs.drop (8 * i)))
def packN (bs : List Bool) (k : Nat) : Bs := (List.range k).map (byteN bs)
theorem pack_len (bs : List Bool) (k : Nat) : (packN bs k).length = k := by simp [packN]
theorem pack_succ (bs : List Bool) (k : Nat) : packN bs (k + 1) = packN bs k ++ [byteN bs k] := by simp [packN, List.range_succ]
theorem pack_app (bs xs : List Bool) (k : Nat) (h : 8 * k ≤ bs.length) : packN (bs ++ xs) k = packN bs k := by
 unfold packN
 refine List.map_congr_left (fun i hi => ?_)
 have hi := List.mem_range.1 hi
 unfold byteN
 rw [List.drop_append_of_le_length (by omega), numB_append]
 apply UInt8.toNat_inj.1
 rw [UInt8.toNat_ofNat', UInt8.toNat_ofNat']
 have : 2 ^ (bs.drop (8 * i)).length = 256 * 2 ^ ((bs.drop (8 * i)).length - 8) := by
  rw [show (256 : Nat) = 2 ^ 8 by decide, ← Nat.pow_add]
  congr 1
  rw [List.length_drop]; omega
 rw [this, Nat.mul_assoc]
 omega
def WR : Nat := 160900
def WO : Nat := 160901
attribute [go_sem] WR WO
def wrA (bs : List Bool) (k : Nat) : List AV := [.sl WO 0 k, .int .u64 (numB (bs.drop (8 * k)) : Nat), .int .i64 (bs.length - 8 * k : Nat)]
def wrK (bs : List Bool) (k : Nat) : HP := [(WR, .var (wrA bs k)), (WO, .arr 1 ((packN bs k).map ub))]
def wrH (bs : List Bool) : HP := wrK bs (bs.length / 8)
theorem byte_of (bs : List Bool) (k : Nat) : AV.int .u8 (IntKind.u8.wrap ((numB (bs.drop (8 * k)) : Nat) : Int)) = ub (byteN bs k) := by
 unfold ub byteN
 rw [UInt8.toNat_ofNat']
 congr 1
theorem shr8 (x : Nat) : ((x : Nat) : Int).fdiv (2 ^ min 8 64) = ((x / 2 ^ 8 : Nat) : Int) := by
 rw [show (2 : Int) ^ min 8 64 = ((2 ^ 8 : Nat) : Int) by decide]
 rw [Int.fdiv_eq_ediv_of_nonneg _ (by omega)]
 rfl
theorem or_low {x k b : Nat} (hx : x < 2 ^ k) (hk : k ≤ 7) (hb : b < 2 ^ 32) : bits .or .u64 (x : Int) (IntKind.u64.wrap ((b : Int) * 2 ^ min k 64)) = ((x + 2 ^ k * b : Nat) : Int) := by
 have hp : 2 ^ k ≤ 2 ^ 7 := Nat.pow_le_pow_right (by decide) hk
 have h2 : b * 2 ^ k ≤ (2 ^ 32 - 1) * 2 ^ 7 := Nat.mul_le_mul (by omega) hp
 have e : IntKind.u64.wrap ((b : Int) * 2 ^ min k 64) = ((b * 2 ^ k : Nat) : Int) := by
  rw [Nat.min_eq_left (by omega), show ((b : Int) * 2 ^ k) = ((b * 2 ^ k : Nat) : Int) by push_cast; rfl]
  exact wrap_u64 (by omega)
 rw [e]
 show IntKind.u64.wrap ((BitVec.ofInt 64 (x : Int) ||| BitVec.ofInt 64 ((b * 2 ^ k : Nat) : Int)).toNat : Int) = _
 rw [BitVec.ofInt_natCast, BitVec.ofInt_natCast, BitVec.toNat_or, BitVec.toNat_ofNat, BitVec.toNat_ofNat, Nat.mod_eq_of_lt (by omega), Nat.mod_eq_of_lt (by omega), Nat.or_comm, ← Nat.shiftLeft_eq, ← Nat.shiftLeft_add_eq_or_of_lt hx, Nat.shiftLeft_eq, Nat.add_comm, Nat.mul_comm]
 exact wrap_u64 (by rw [Nat.mul_comm]; omega)
theorem wbits_ok (bs : List Bool) (x n : Nat) (hx : x < 2 ^ 32) (hn : n ≤ 32) (hb : bs.length ≤ 1000000000000) : Eng.Spec Tryd.prog 53 (wrH bs) [.vptr WR 0, .int .u32 x, .int .i64 n]
    (fun h' v ar => h' = wrH (bs ++ lowB x n) ∧ v = .tup [] ∧ ar = [.vptr WR 0, .int .u32 x, .int .i64 n]) := by
 refine Cod.wbits_spec (fun E R hN hR => ?_)
 generalize hbs : bs ++ lowB x n = cs at *
 have hl : cs.length = bs.length + n := by rw [← hbs, List.length_append, low_len]
 have hhv : (bs.length - 8 * (bs.length / 8)) ≤ 7 := by omega
 have hlt : numB (bs.drop (8 * (bs.length / 8))) < 2 ^ (bs.length - 8 * (bs.length / 8)) := by have := numB_lt (bs.drop (8 * (bs.length / 8))); rwa [List.length_drop] at this
 have hand := and_mask x n (by omega) hn
 have hxm : x % 2 ^ n < 2 ^ 32 := Nat.lt_of_le_of_lt (Nat.mod_le _ _) hx
 have hor := or_low hlt hhv hxm
 have hnum : numB (cs.drop (8 * (bs.length / 8))) = numB (bs.drop (8 * (bs.length / 8))) + 2 ^ (bs.length - 8 * (bs.length / 8)) * (x % 2 ^ n) := by
  rw [← hbs, List.drop_append_of_le_length (by omega), numB_append, numB_low, List.length_drop]
 rw [← hnum] at hor
 have hpk : packN bs (bs.length / 8) = packN cs (bs.length / 8) := by rw [← hbs, pack_app _ _ _ (by omega)]
 simp (disch := omega) only [go_sem, simprocAttr, wrH, wrK, wrA]
 (repeat (first | refine gskip_of ?_ | refine gcskip_of ?_ | refine gopen_of ?_) <;> simp (disch := omega) only [go_sem, simprocAttr])
 rw [hand, hor, hpk]
 refine vcW_loop hN (fun k : Nat => ⟨[(0, .vptr WR 0), (2000000, .vptr WR 0), (2000001, .int .u32 x), (2000002, .int .i64 n)], wrK cs k⟩) (fun k => 8 * k ≤ cs.length ∧ cs.length - 8 * k ≤ 39) (fun k => cs.length - 8 * k) (bs.length / 8) (.le ?_) ⟨by omega, by omega⟩ ?_
 ·simp (disch := omega) only [go_sem, simprocAttr, wrK, wrA, show cs.length - 8 * (bs.length / 8) = bs.length - 8 * (bs.length / 8) + n by omega]
 rintro k R1 ⟨hk, hk2⟩ hR1
 have hnl : numB (cs.drop (8 * k)) < 2 ^ 39 := by
  have := numB_lt (cs.drop (8 * k))
  rw [List.length_drop] at this
  exact Nat.lt_of_lt_of_le this (Nat.pow_le_pow_right (by decide) hk2)
 by_cases h8 : 8 ≤ cs.length - 8 * k
 ·have hd : numB (cs.drop (8 * (k + 1))) = numB (cs.drop (8 * k)) / 2 ^ 8 := by
   rw [show 8 * (k + 1) = 8 * k + 8 by omega, ← List.drop_drop, numB_div]
  have hby := byte_of cs k
  have hps := pack_succ cs k
  have hpl := pack_len cs k
  simp (disch := omega) only [go_sem, simprocAttr, wrK, wrA, take_all, hpl]
  rw [shr8, ← hd]
  refine hR1 (k + 1) _ (by omega) ⟨by omega, by omega⟩ (.le ?_)
  simp (disch := omega) only [go_sem, simprocAttr, wrK, wrA, hps, show cs.length - 8 * (k + 1) = cs.length - 8 * k - 8 by omega]
  rw [hby]
  simp
 ·have e : k = cs.length / 8 := by omega
  subst e
  simp (disch := omega) only [go_sem, simprocAttr, wrK, wrA]
  exact hR.le (by simp (disch := omega) only [go_sem, simprocAttr, wrH, wrK, wrA]) ⟨rfl, rfl, rfl⟩
end Go.Proofs.YtjoefngnjoofeaaDoor.Pk
namespace Go.Proofs.YtjoefngnjoofeaaDoor.Pk
open Eng
set_option maxRecDepth 10000
end Go.Proofs.YtjoefngnjoofeaaDoor.Pk
namespace Go.Proofs.YtjoefngnjoofeaaDoor.Cod
open Eng Eng.Kz
set_option maxRecDepth 100000
abbrev iput_3 : AK := .seq (.reg [k 4 (ci 0)] [4,2000000,2000001]) .ret
abbrev iput_2 : AK := .seq (.reg [m 15 0, m 16 0, .v 17 (.nilc (.t 16)), .v 18 (.fldA false 1 1 (.t 17)), .v 19 (.ld false 1 (.t 18)), m 20 1, .eff 21 false 60021 (.bsl 1 [(.t 20)]), .eff 22 false 60022 (.app 1 1 (.t 19) (.t 21)), .v 23 (.nilc (.t 15)), .v 24 (.fldA false 1 1 (.t 23)), .effN false 60000 (.st 1 (.t 24) (.t 22))] [2000000,2000001]) iput_3
abbrev iput_6 : AK := .seq (.reg [k 4 (ci 2)] [4,2000000,2000001]) .ret
abbrev iput_4 : AK := .seq (.reg [u 60005 5 (.mov (.t 0)), u 60006 6 (.nilc (.t 5)), u 60007 7 (.fldA false 1 1 (.t 6)), u 60008 8 (.ld false 1 (.t 7)), u 60009 9 (.len false (.t 8)), u 60010 10 (.mov (.t 0)), u 60011 11 (.nilc (.t 10)), u 60012 12 (.fldA false 2 1 (.t 11)), u 60013 13 (.ld false 1 (.t 12)), b 14 .eql 9 13] [0,1,14,2000000,2000001]) (.cond (.t 14) iput_6 .skip)
abbrev iput_1 : AK := .seq iput_4 iput_2
abbrev iput_0 : AK := .seq (.reg [k 4 (ci 0)] [0,1,2000000,2000001]) iput_1
abbrev iput : AK := iput_0
theorem iput_fn : FnOK Tryd.prog 81 60000 2 iput [.tmp 4] := ⟨_, Tryd.func81, by kernel_rfl⟩
theorem iput_spec {h : HP} {a0 a1 : AV} {Post : HP → AV → List AV → Prop} (hp : HpN Tryd.prog iput [.tmp 4] 2 [(0, a0), (1, a1), (2000000, a0), (2000001, a1)] h Post) : Eng.Spec Tryd.prog 81 h [a0, a1] Post := spec_fn iput_fn rfl [(0, a0), (1, a1), (2000000, a0), (2000001, a1)] ⟨rfl, rfl, rfl, rfl, trivial⟩ hp
abbrev istored_10 : AK := .seq (.reg [k 2 (ci 0)] [2,2000000]) .ret
abbrev istored_13 : AK := .seq (.reg [k 2 (ci 6)] [2,2000000]) .ret
abbrev istored_11 : AK := .seq (.reg [m 75 4, .v 76 (.un .not (.t 75))] [76,2000000]) (.cond (.t 76) istored_13 .skip)
abbrev istored_9 : AK := .seq istored_11 istored_10
abbrev istored_8 : AK := .seq (.reg [m 66 0, m 67 0, .v 68 (.nilc (.t 67)), .v 69 (.fldA false 1 1 (.t 68)), .v 70 (.ld false 1 (.t 69)), m 71 6, .eff 72 false 61072 (.app 1 1 (.t 70) (.t 71)), .v 73 (.nilc (.t 66)), .v 74 (.fldA false 1 1 (.t 73)), .effN false 61000 (.st 1 (.t 74) (.t 72))] [4,2000000]) istored_9
abbrev istored_16 : AK := .seq (.reg [k 2 (ci 2)] [2,2000000]) .ret
abbrev istored_14 : AK := .seq (.reg [u 61053 53 (.mov (.t 6)), u 61054 54 (.len true (.t 53)), u 61055 55 (.mov (.t 0)), u 61056 56 (.nilc (.t 55)), u 61057 57 (.fldA false 2 1 (.t 56)), u 61058 58 (.ld false 1 (.t 57)), u 61059 59 (.mov (.t 0)), u 61060 60 (.nilc (.t 59)), u 61061 61 (.fldA false 1 1 (.t 60)), u 61062 62 (.ld false 1 (.t 61)), u 61063 63 (.len false (.t 62)), u 61064 64 (.bin .sub (.t 58) (.t 63)), b 65 .gtr 54 64] [0,4,6,65,2000000]) (.cond (.t 65) istored_16 .skip)
abbrev istored_7 : AK := .seq istored_14 istored_8
abbrev istored_19 : AK := .reg [u 61040 40 (.mov (.t 0)), u 61041 41 (.nilc (.t 40)), u 61042 42 (.fldA false 0 1 (.t 41)), u 61043 43 (.ld false 1 (.t 42)), u 61044 44 (.mov (.t 0)), u 61045 45 (.nilc (.t 44)), u 61046 46 (.fldA false 0 1 (.t 45)), u 61047 47 (.ld false 1 (.t 46)), .cal (some 48) true 61048 89 [(.t 47)], u 61049 49 (.bin .quo (.t 48) (ci 8)), .cal (some 50) false 61050 87 [(.t 43), (.t 49)], m 39 50, u 61051 51 (.ext (.t 39) 0), u 61052 52 (.ext (.t 39) 1), u 61006 6 (.mov (.t 51))] [0,4,6,2000000]
abbrev istored_17 : AK := .seq (.reg [m 37 4, .v 38 (.un .not (.t 37))] [0,4,6,38,2000000]) (.cond (.t 38) istored_19 .skip)
def istored_6 : AK := .seq istored_17 (.mid istored_7)
abbrev istored_5 : AK := .seq (.reg [m 29 0, .v 30 (.nilc (.t 29)), .v 31 (.fldA false 0 1 (.t 30)), .v 32 (.ld false 1 (.t 31)), m 33 5, .cal (some 34) false 61034 87 [(.t 32), (.t 33)], m 28 34, .v 35 (.ext (.t 28) 0), .v 36 (.ext (.t 28) 1), m 6 35, m 4 36] [0,4,6,2000000]) istored_6
abbrev istored_22 : AK := .seq (.reg [k 2 (ci 3)] [2,2000000]) .ret
abbrev istored_20 : AK := .seq (.reg [m 21 5, bi 22 .xor 21 65535, m 23 3, .v 24 (.slcS (.t 23) (some (ci 2)) none), .cal (some 25) false 61025 88 [(.t 24)], .v 26 (.cvi .i64 (.t 25)), b 27 .neq 22 26] [0,5,27,2000000]) (.cond (.t 27) istored_22 .skip)
abbrev istored_4 : AK := .seq istored_20 istored_5
abbrev istored_3 : AK := .seq (.reg [m 17 3, .v 18 (.slcS (.t 17) none (some (ci 2))), .cal (some 19) false 61019 88 [(.t 18)], .v 20 (.cvi .i64 (.t 19)), m 5 20] [0,3,5,2000000]) istored_4
abbrev istored_25 : AK := .seq (.reg [k 2 (ci 6)] [2,2000000]) .ret
abbrev istored_23 : AK := .seq (.reg [m 15 4, .v 16 (.un .not (.t 15))] [0,3,16,2000000]) (.cond (.t 16) istored_25 .skip)
abbrev istored_2 : AK := .seq istored_23 istored_3
abbrev istored_1 : AK := .seq (.reg [m 8 0, .v 9 (.nilc (.t 8)), .v 10 (.fldA false 0 1 (.t 9)), .v 11 (.ld false 1 (.t 10)), .cal (some 12) false 61012 87 [(.t 11), (ci 4)], m 7 12, .v 13 (.ext (.t 7) 0), .v 14 (.ext (.t 7) 1), m 3 13, m 4 14] [0,3,4,2000000]) istored_2
abbrev istored_0 : AK := .seq (.reg [k 2 (ci 0)] [0,2000000]) istored_1
abbrev istored : AK := istored_0
theorem istored_fn : FnOK Tryd.prog 78 61000 1 istored [.tmp 2] := ⟨_, Tryd.func78, by kernel_rfl⟩
theorem istored_spec {h : HP} {a0 : AV} {Post : HP → AV → List AV → Prop} (hp : HpN Tryd.prog istored [.tmp 2] 1 [(0, a0), (2000000, a0)] h Post) : Eng.Spec Tryd.prog 78 h [a0] Post := spec_fn istored_fn rfl [(0, a0), (2000000, a0)] ⟨rfl, rfl, trivial⟩ hp
abbrev itables_14 : AK := .seq (.reg [m 184 24, m 185 26, m 2 184, m 3 185, k 4 (ci 0)] [2,3,4,2000000]) .ret
abbrev itables_17 : AK := .seq (.reg [k 2 (.c (.lit (.pointer none))), k 3 (.c (.lit (.pointer none))), k 4 (ci 3)] [2,3,4,2000000]) .ret
abbrev itables_15 : AK := .seq (.reg [m 172 16, .v 173 (.idxA 1 (.t 172) (ci 256)), .v 174 (.ld false 1 (.t 173)), bi 175 .eql 174 0, m 176 175, .gval 177 176 false false 62177 (.mov (.t 25)), .gval 178 176 false false 62178 (.bin .neq (.t 177) (ci 0)), .v 179 (.pick (.t 176) (.c (.bool true)) (.t 178)), m 180 179, .gval 181 180 false false 62181 (.mov (.t 27)), .gval 182 180 false false 62182 (.bin .neq (.t 181) (ci 0)), .v 183 (.pick (.t 180) (.c (.bool true)) (.t 182))] [24,26,183,2000000]) (.cond (.t 183) itables_17 .skip)
abbrev itables_13 : AK := .seq itables_15 itables_14
abbrev itables_12 : AK := .seq (.reg [m 166 16, m 167 7, .v 168 (.slcA 1 (.t 166) (some (.t 167)) none), .cal (some 169) false 62169 71 [(.t 168)], m 165 169, .v 170 (.ext (.t 165) 0), .v 171 (.ext (.t 165) 1), m 26 170, m 27 171] [16,24,25,26,27,2000000]) itables_13
abbrev itables_11 : AK := .seq (.reg [m 159 16, m 160 7, .v 161 (.slcA 1 (.t 159) none (some (.t 160))), .cal (some 162) false 62162 71 [(.t 161)], m 158 162, .v 163 (.ext (.t 158) 0), .v 164 (.ext (.t 158) 1), m 24 163, m 25 164] [7,16,24,25,2000000]) itables_12
abbrev itables_34 : AK := .reg [bi 157 .add 151 1, m 151 157] [0,7,8,14,16,21,150,151,2000000]
abbrev itables_36 : AK := .reg [m 153 16, m 154 21, .eff 155 false 62155 (.bsl 1 [(.t 154)]), .eff 156 false 62156 (.app 1 8 (.t 153) (.t 155)), m 16 156] [0,7,8,14,16,21,150,151,2000000]
abbrev itables_33 : AK := .seq (.block 6 itables_36) itables_34
abbrev itables_32 : AK := .seq (.cond (.t 152) .skip (.exit 5)) itables_33
abbrev itables_31 : AK := .seq (.reg [b 152 .lss 151 150] [0,7,8,14,16,21,150,151,152,2000000]) itables_32
abbrev itables_L1 : AK := .loop itables_31
abbrev itables_29 : AK := .seq (.reg [m 147 20, m 148 22, .v 149 (.cvi .i64 (.t 148)), b 150 .add 147 149, k 151 (ci 0)] [0,7,8,14,16,21,150,151,2000000]) (.block 5 itables_L1)
abbrev itables_40 : AK := .seq (.reg [k 2 (.c (.lit (.pointer none))), k 3 (.c (.lit (.pointer none))), k 4 (ci 3)] [2,3,4,2000000]) .ret
abbrev itables_38 : AK := .seq (.reg [m 136 16, .v 137 (.len false (.t 136)), m 138 20, b 139 .add 137 138, m 140 22, .v 141 (.cvi .i64 (.t 140)), b 142 .add 139 141, m 143 7, m 144 8, b 145 .add 143 144, b 146 .gtr 142 145] [0,7,8,14,16,20,21,22,146,2000000]) (.cond (.t 146) itables_40 .skip)
abbrev itables_28 : AK := .seq itables_38 itables_29
abbrev itables_43 : AK := .seq (.reg [k 2 (.c (.lit (.pointer none))), k 3 (.c (.lit (.pointer none))), k 4 (ci 6)] [2,3,4,2000000]) .ret
abbrev itables_41 : AK := .seq (.reg [m 134 23, .v 135 (.un .not (.t 134))] [0,7,8,14,16,20,21,22,135,2000000]) (.cond (.t 135) itables_43 .skip)
abbrev itables_27 : AK := .seq itables_41 itables_28
abbrev itables_26 : AK := .seq (.reg [m 126 0, .v 127 (.nilc (.t 126)), .v 128 (.fldA false 0 1 (.t 127)), .v 129 (.ld false 1 (.t 128)), m 130 19, .cal (some 131) false 62131 77 [(.t 129), (.t 130)], m 125 131, .v 132 (.ext (.t 125) 0), .v 133 (.ext (.t 125) 1), m 22 132, m 23 133] [0,7,8,14,16,20,21,22,23,2000000]) itables_27
abbrev itables_49 : AK := .reg [m 117 16, m 118 16, .v 119 (.len false (.t 118)), bi 120 .sub 119 1, .v 121 (.idxA 1 (.t 117) (.t 120)), .v 122 (.ld false 1 (.t 121)), m 21 122] [0,7,8,14,16,19,20,21,2000000]
abbrev itables_52 : AK := .seq (.reg [k 2 (.c (.lit (.pointer none))), k 3 (.c (.lit (.pointer none))), k 4 (ci 3)] [2,3,4,2000000]) .ret
abbrev itables_50 : AK := .seq (.reg [m 114 16, .v 115 (.len false (.t 114)), bi 116 .eql 115 0] [0,7,8,14,16,19,20,116,2000000]) (.cond (.t 116) itables_52 .skip)
abbrev itables_48 : AK := .seq itables_50 itables_49
abbrev itables_55 : AK := .reg [k 19 (ci 3)] [0,7,8,14,16,19,20,21,2000000]
abbrev itables_56 : AK := .reg [k 19 (ci 7), k 20 (ci 11)] [0,7,8,14,16,19,20,21,2000000]
abbrev itables_53 : AK := .seq (.reg [bi 124 .eql 111 17, m 123 124] [0,7,8,14,16,20,21,123,2000000]) (.cond (.t 123) itables_55 itables_56)
abbrev itables_46 : AK := .seq (.reg [bi 113 .eql 111 16, m 112 113] [0,7,8,14,16,19,20,21,111,112,2000000]) (.cond (.t 112) itables_48 itables_53)
abbrev itables_44 : AK := .seq (.reg [m 111 17] [0,7,8,14,16,19,20,21,111,2000000]) (.block 4 itables_46)
def itables_25 : AK := .seq itables_44 (.mid itables_26)
abbrev itables_24 : AK := .seq (.reg [k 19 (ci 2), k 20 (ci 3), k 21 (ci 0)] [0,7,8,14,16,17,19,20,21,2000000]) itables_25
abbrev itables_59 : AK := .seq (.reg [m 107 16, m 108 17, .eff 109 false 62109 (.bsl 1 [(.t 108)]), .eff 110 false 62110 (.app 1 8 (.t 107) (.t 109)), m 16 110] [0,7,8,14,16,2000000]) (.exit 3)
abbrev itables_57 : AK := .seq (.reg [m 105 17, bi 106 .lss 105 16] [0,7,8,14,16,17,106,2000000]) (.cond (.t 106) itables_59 .skip)
abbrev itables_23 : AK := .seq itables_57 itables_24
abbrev itables_62 : AK := .seq (.reg [m 104 18, k 2 (.c (.lit (.pointer none))), k 3 (.c (.lit (.pointer none))), m 4 104] [2,3,4,2000000]) .ret
abbrev itables_60 : AK := .seq (.reg [m 102 18, bi 103 .neq 102 0] [0,7,8,14,16,17,18,103,2000000]) (.cond (.t 103) itables_62 .skip)
abbrev itables_22 : AK := .seq itables_60 itables_23
abbrev itables_21 : AK := .seq (.reg [m 94 14, m 95 0, .v 96 (.nilc (.t 95)), .v 97 (.fldA false 0 1 (.t 96)), .v 98 (.ld false 1 (.t 97)), .cal (some 99) false 62099 80 [(.t 94), (.t 98)], m 93 99, .v 100 (.ext (.t 93) 0), .v 101 (.ext (.t 93) 1), m 17 100, m 18 101] [0,7,8,14,16,17,18,2000000]) itables_22
abbrev itables_63 : AK := .seq (.reg [m 87 16, .v 88 (.len false (.t 87)), m 89 7, m 90 8, b 91 .add 89 90, b 92 .lss 88 91] [0,7,8,14,16,92,2000000]) (.cond (.t 92) .skip (.exit 2))
abbrev itables_19 : AK := .seq itables_63 (.block 3 itables_21)
abbrev itables_L0 : AK := .loop itables_19
def itables_10 : AK := .seq (.block 2 itables_L0) (.mid itables_11)
abbrev itables_9 : AK := .seq (.reg [k 16 (.c (.nilsl))] [0,7,8,14,16,2000000]) itables_10
abbrev itables_67 : AK := .seq (.reg [k 2 (.c (.lit (.pointer none))), k 3 (.c (.lit (.pointer none))), k 4 (ci 3)] [2,3,4,2000000]) .ret
abbrev itables_65 : AK := .seq (.reg [m 85 15, bi 86 .neq 85 0] [0,7,8,14,86,2000000]) (.cond (.t 86) itables_67 .skip)
abbrev itables_8 : AK := .seq itables_65 itables_9
abbrev itables_7 : AK := .seq (.reg [m 81 10, .cal (some 82) false 62082 71 [(.t 81)], m 80 82, .v 83 (.ext (.t 80) 0), .v 84 (.ext (.t 80) 1), m 14 83, m 15 84] [0,7,8,14,15,2000000]) itables_8
abbrev itables_73 : AK := .reg [bi 79 .add 59 1, m 59 79] [0,7,8,10,58,59,2000000]
abbrev itables_78 : AK := .reg [m 72 10, .cal (some 73) false 62073 90 [], m 74 11, .v 75 (.idxV 19 (.t 73) (.t 74)), m 76 12, .v 77 (.cvi .i64 (.t 76)), .v 78 (.idxA 1 (.t 72) (.t 75)), .effN false 62000 (.st 1 (.t 78) (.t 77))] [0,7,8,10,58,59,2000000]
abbrev itables_81 : AK := .seq (.reg [k 2 (.c (.lit (.pointer none))), k 3 (.c (.lit (.pointer none))), k 4 (ci 6)] [2,3,4,2000000]) .ret
abbrev itables_79 : AK := .seq (.reg [m 70 13, .v 71 (.un .not (.t 70))] [0,7,8,10,11,12,58,59,71,2000000]) (.cond (.t 71) itables_81 .skip)
abbrev itables_77 : AK := .seq itables_79 itables_78
abbrev itables_76 : AK := .seq (.reg [m 63 0, .v 64 (.nilc (.t 63)), .v 65 (.fldA false 0 1 (.t 64)), .v 66 (.ld false 1 (.t 65)), .cal (some 67) false 62067 77 [(.t 66), (ci 3)], m 62 67, .v 68 (.ext (.t 62) 0), .v 69 (.ext (.t 62) 1), m 12 68, m 13 69] [0,7,8,10,11,12,13,58,59,2000000]) itables_77
abbrev itables_75 : AK := .seq (.reg [m 61 59, m 11 61] [0,7,8,10,11,58,59,2000000]) itables_76
abbrev itables_72 : AK := .seq (.block 1 itables_75) itables_73
abbrev itables_71 : AK := .seq (.cond (.t 60) .skip (.exit 0)) itables_72
abbrev itables_70 : AK := .seq (.reg [b 60 .lss 59 58] [0,7,8,10,58,59,60,2000000]) itables_71
abbrev itables_L2 : AK := .loop itables_70
abbrev itables_68 : AK := .seq (.reg [m 58 9, k 59 (ci 0)] [0,7,8,10,58,59,2000000]) (.block 0 itables_L2)
def itables_6 : AK := .seq itables_68 (.mid itables_7)
abbrev itables_5 : AK := .seq (.reg [.eff 57 false 62057 (.mks 1 8 [.int .i64 0] (ci 19) (ci 19)), m 10 57] [0,7,8,9,10,2000000]) itables_6
abbrev itables_85 : AK := .seq (.reg [k 2 (.c (.lit (.pointer none))), k 3 (.c (.lit (.pointer none))), k 4 (ci 3)] [2,3,4,2000000]) .ret
abbrev itables_83 : AK := .seq (.reg [m 51 7, bi 52 .gtr 51 286, m 53 52, .gval 54 53 false false 62054 (.mov (.t 8)), .gval 55 53 false false 62055 (.bin .gtr (.t 54) (ci 30)), .v 56 (.pick (.t 53) (.c (.bool true)) (.t 55))] [0,7,8,9,56,2000000]) (.cond (.t 56) itables_85 .skip)
abbrev itables_4 : AK := .seq itables_83 itables_5
abbrev itables_3 : AK := .seq (.reg [m 38 5, .v 39 (.bin .and (.t 38) (.c (.int .u32 31))), .v 40 (.cvi .i64 (.t 39)), bi 41 .add 40 257, m 42 5, .v 43 (.bin .shr (.t 42) (.c (.int .u64 5))), .v 44 (.bin .and (.t 43) (.c (.int .u32 31))), .v 45 (.cvi .i64 (.t 44)), bi 46 .add 45 1, m 47 5, .v 48 (.bin .shr (.t 47) (.c (.int .u64 10))), .v 49 (.cvi .i64 (.t 48)), bi 50 .add 49 4, m 7 41, m 8 46, m 9 50] [0,7,8,9,2000000]) itables_4
abbrev itables_88 : AK := .seq (.reg [k 2 (.c (.lit (.pointer none))), k 3 (.c (.lit (.pointer none))), k 4 (ci 6)] [2,3,4,2000000]) .ret
abbrev itables_86 : AK := .seq (.reg [m 36 6, .v 37 (.un .not (.t 36))] [0,5,37,2000000]) (.cond (.t 37) itables_88 .skip)
abbrev itables_2 : AK := .seq itables_86 itables_3
abbrev itables_1 : AK := .seq (.reg [m 29 0, .v 30 (.nilc (.t 29)), .v 31 (.fldA false 0 1 (.t 30)), .v 32 (.ld false 1 (.t 31)), .cal (some 33) false 62033 77 [(.t 32), (ci 14)], m 28 33, .v 34 (.ext (.t 28) 0), .v 35 (.ext (.t 28) 1), m 5 34, m 6 35] [0,5,6,2000000]) itables_2
abbrev itables_0 : AK := .seq (.reg [k 2 (.c (.lit (.pointer none))), k 3 (.c (.lit (.pointer none))), k 4 (ci 0)] [0,2000000]) itables_1
abbrev itables : AK := itables_0
theorem itables_fn : FnOK Tryd.prog 79 62000 1 itables [.tmp 2, .tmp 3, .tmp 4] := ⟨_, Tryd.func79, by kernel_rfl⟩
theorem itables_spec {h : HP} {a0 : AV} {Post : HP → AV → List AV → Prop} (hp : HpN Tryd.prog itables [.tmp 2, .tmp 3, .tmp 4] 1 [(0, a0), (2000000, a0)] h Post) : Eng.Spec Tryd.prog 79 h [a0] Post := spec_fn itables_fn rfl [(0, a0), (2000000, a0)] ⟨rfl, rfl, trivial⟩ hp
abbrev irepeat_15 : AK := .seq (.reg [k 6 (ci 0)] [6,2000000,2000001,2000002]) .ret
abbrev irepeat_21 : AK := .reg [bi 100 .add 80 1, m 80 100] [0,13,79,80,2000000,2000001,2000002]
abbrev irepeat_26 : AK := .seq (.reg [m 99 14, m 6 99] [6,2000000,2000001,2000002]) .ret
abbrev irepeat_24 : AK := .seq (.reg [m 97 14, bi 98 .neq 97 0] [0,13,14,79,80,98,2000000,2000001,2000002]) (.cond (.t 98) irepeat_26 .skip)
abbrev irepeat_23 : AK := .seq (.reg [u 63082 82 (.mov (.t 0)), u 63083 83 (.mov (.t 0)), u 63084 84 (.nilc (.t 83)), u 63085 85 (.fldA false 1 1 (.t 84)), u 63086 86 (.ld false 1 (.t 85)), u 63087 87 (.mov (.t 0)), u 63088 88 (.nilc (.t 87)), u 63089 89 (.fldA false 1 1 (.t 88)), u 63090 90 (.ld false 1 (.t 89)), u 63091 91 (.len false (.t 90)), u 63092 92 (.mov (.t 13)), u 63093 93 (.bin .sub (.t 91) (.t 92)), .v 94 (.idxA 1 (.t 86) (.t 93)), .v 95 (.ld false 1 (.t 94)), .cal (some 96) false 63096 81 [(.t 82), (.t 95)], m 14 96] [0,13,14,79,80,2000000,2000001,2000002]) irepeat_24
abbrev irepeat_20 : AK := .seq (.block 1 irepeat_23) irepeat_21
abbrev irepeat_19 : AK := .seq (.cond (.t 81) .skip (.exit 0)) irepeat_20
abbrev irepeat_18 : AK := .seq (.reg [b 81 .lss 80 79] [0,13,79,80,81,2000000,2000001,2000002]) irepeat_19
abbrev irepeat_L0 : AK := .loop irepeat_18
abbrev irepeat_16 : AK := .seq (.reg [m 79 7, k 80 (ci 0)] [0,13,79,80,2000000,2000001,2000002]) (.block 0 irepeat_L0)
abbrev irepeat_14 : AK := .seq irepeat_16 irepeat_15
abbrev irepeat_30 : AK := .seq (.reg [k 6 (ci 3)] [6,2000000,2000001,2000002]) .ret
abbrev irepeat_28 : AK := .seq (.reg [m 72 13, m 73 0, .v 74 (.nilc (.t 73)), .v 75 (.fldA false 1 1 (.t 74)), .v 76 (.ld false 1 (.t 75)), .v 77 (.len false (.t 76)), b 78 .gtr 72 77] [0,7,13,78,2000000,2000001,2000002]) (.cond (.t 78) irepeat_30 .skip)
abbrev irepeat_13 : AK := .seq irepeat_28 irepeat_14
abbrev irepeat_12 : AK := .seq (.reg [m 68 13, m 69 9, .v 70 (.cvi .i64 (.t 69)), b 71 .add 68 70, m 13 71] [0,7,13,2000000,2000001,2000002]) irepeat_13
abbrev irepeat_33 : AK := .seq (.reg [k 6 (ci 6)] [6,2000000,2000001,2000002]) .ret
abbrev irepeat_31 : AK := .seq (.reg [m 66 10, .v 67 (.un .not (.t 66))] [0,7,9,13,67,2000000,2000001,2000002]) (.cond (.t 67) irepeat_33 .skip)
abbrev irepeat_11 : AK := .seq irepeat_31 irepeat_12
abbrev irepeat_10 : AK := .seq (.reg [m 58 0, .v 59 (.nilc (.t 58)), .v 60 (.fldA false 0 1 (.t 59)), .v 61 (.ld false 1 (.t 60)), m 62 8, .cal (some 63) false 63063 77 [(.t 61), (.t 62)], m 57 63, .v 64 (.ext (.t 57) 0), .v 65 (.ext (.t 57) 1), m 9 64, m 10 65] [0,7,9,10,13,2000000,2000001,2000002]) irepeat_11
abbrev irepeat_9 : AK := .seq (.reg [m 53 11, .cal (some 54) false 63054 58 [(.t 53)], m 52 54, .v 55 (.ext (.t 52) 0), .v 56 (.ext (.t 52) 1), m 13 55, m 8 56] [0,7,8,13,2000000,2000001,2000002]) irepeat_10
abbrev irepeat_36 : AK := .seq (.reg [k 6 (ci 3)] [6,2000000,2000001,2000002]) .ret
abbrev irepeat_34 : AK := .seq (.reg [m 50 11, bi 51 .gtr 50 29] [0,7,11,51,2000000,2000001,2000002]) (.cond (.t 51) irepeat_36 .skip)
abbrev irepeat_8 : AK := .seq irepeat_34 irepeat_9
abbrev irepeat_39 : AK := .seq (.reg [m 49 12, m 6 49] [6,2000000,2000001,2000002]) .ret
abbrev irepeat_37 : AK := .seq (.reg [m 47 12, bi 48 .neq 47 0] [0,7,11,12,48,2000000,2000001,2000002]) (.cond (.t 48) irepeat_39 .skip)
abbrev irepeat_7 : AK := .seq irepeat_37 irepeat_8
abbrev irepeat_6 : AK := .seq (.reg [m 39 2, m 40 0, .v 41 (.nilc (.t 40)), .v 42 (.fldA false 0 1 (.t 41)), .v 43 (.ld false 1 (.t 42)), .cal (some 44) false 63044 80 [(.t 39), (.t 43)], m 38 44, .v 45 (.ext (.t 38) 0), .v 46 (.ext (.t 38) 1), m 11 45, m 12 46] [0,7,11,12,2000000,2000001,2000002]) irepeat_7
abbrev irepeat_5 : AK := .seq (.reg [m 34 7, m 35 9, .v 36 (.cvi .i64 (.t 35)), b 37 .add 34 36, m 7 37] [0,2,7,2000000,2000001,2000002]) irepeat_6
abbrev irepeat_42 : AK := .seq (.reg [k 6 (ci 6)] [6,2000000,2000001,2000002]) .ret
abbrev irepeat_40 : AK := .seq (.reg [m 32 10, .v 33 (.un .not (.t 32))] [0,2,7,9,33,2000000,2000001,2000002]) (.cond (.t 33) irepeat_42 .skip)
abbrev irepeat_4 : AK := .seq irepeat_40 irepeat_5
abbrev irepeat_3 : AK := .seq (.reg [m 24 0, .v 25 (.nilc (.t 24)), .v 26 (.fldA false 0 1 (.t 25)), .v 27 (.ld false 1 (.t 26)), m 28 8, .cal (some 29) false 63029 77 [(.t 27), (.t 28)], m 23 29, .v 30 (.ext (.t 23) 0), .v 31 (.ext (.t 23) 1), m 9 30, m 10 31] [0,2,7,9,10,2000000,2000001,2000002]) irepeat_4
abbrev irepeat_2 : AK := .seq (.reg [m 18 1, bi 19 .sub 18 257, .cal (some 20) false 63020 57 [(.t 19)], m 17 20, .v 21 (.ext (.t 17) 0), .v 22 (.ext (.t 17) 1), m 7 21, m 8 22] [0,2,7,8,2000000,2000001,2000002]) irepeat_3
abbrev irepeat_45 : AK := .seq (.reg [k 6 (ci 3)] [6,2000000,2000001,2000002]) .ret
abbrev irepeat_43 : AK := .seq (.reg [m 15 1, bi 16 .gtr 15 285] [0,1,2,16,2000000,2000001,2000002]) (.cond (.t 16) irepeat_45 .skip)
abbrev irepeat_1 : AK := .seq irepeat_43 irepeat_2
abbrev irepeat_0 : AK := .seq (.reg [k 6 (ci 0)] [0,1,2,2000000,2000001,2000002]) irepeat_1
abbrev irepeat : AK := irepeat_0
theorem irepeat_fn : FnOK Tryd.prog 82 63000 3 irepeat [.tmp 6] := ⟨_, Tryd.func82, by kernel_rfl⟩
theorem irepeat_spec {h : HP} {a0 a1 a2 : AV} {Post : HP → AV → List AV → Prop} (hp : HpN Tryd.prog irepeat [.tmp 6] 3 [(0, a0), (1, a1), (2, a2), (2000000, a0), (2000001, a1), (2000002, a2)] h Post) : Eng.Spec Tryd.prog 82 h [a0, a1, a2] Post := spec_fn irepeat_fn rfl [(0, a0), (1, a1), (2, a2), (2000000, a0), (2000001, a1), (2000002, a2)] ⟨rfl, rfl, rfl, rfl, rfl, rfl, trivial⟩ hp
abbrev irun_18 : AK := .seq (.reg [k 2 (ci 0)] [2,2000000]) .ret
abbrev irun_19 : AK := .seq (.reg [m 72 3, .v 73 (.bin .and (.t 72) (.c (.int .u32 1))), .v 74 (.bin .eql (.t 73) (.c (.int .u32 0)))] [0,74,2000000]) (.cond (.t 74) (.goto 0) .skip)
abbrev irun_17 : AK := .seq irun_19 irun_18
abbrev irun_16 : AK := .seq (.label 1) irun_17
abbrev irun_21 : AK := .seq (.reg [m 71 5, m 2 71] [2,2000000]) .ret
abbrev irun_15 : AK := .seq irun_21 irun_16
abbrev irun_22 : AK := .seq (.reg [m 69 5, bi 70 .eql 69 0] [0,3,5,7,8,70,2000000]) (.cond (.t 70) (.goto 2) .skip)
abbrev irun_14 : AK := .seq irun_22 irun_15
abbrev irun_26 : AK := .reg [m 61 0, m 62 6, .v 63 (.cvi .u8 (.t 62)), .cal (some 64) false 64064 81 [(.t 61), (.t 63)], m 5 64] [0,3,5,7,8,2000000]
abbrev irun_27 : AK := .reg [m 65 0, m 66 6, m 67 8, .cal (some 68) false 64068 82 [(.t 65), (.t 66), (.t 67)], m 5 68] [0,3,5,7,8,2000000]
abbrev irun_24 : AK := .seq (.reg [m 59 6, bi 60 .lss 59 256] [0,3,6,7,8,60,2000000]) (.cond (.t 60) irun_26 irun_27)
def irun_13 : AK := .seq irun_24 (.mid irun_14)
abbrev irun_28 : AK := .seq (.reg [m 57 6, bi 58 .eql 57 256] [0,3,6,7,8,58,2000000]) (.cond (.t 58) (.goto 1) .skip)
abbrev irun_12 : AK := .seq irun_28 irun_13
abbrev irun_33 : AK := .seq (.reg [m 56 5, m 2 56] [2,2000000]) .ret
abbrev irun_31 : AK := .seq (.reg [m 54 5, bi 55 .neq 54 0] [0,3,5,6,7,8,55,2000000]) (.cond (.t 55) irun_33 .skip)
abbrev irun_30 : AK := .seq (.reg [m 46 7, m 47 0, .v 48 (.nilc (.t 47)), .v 49 (.fldA false 0 1 (.t 48)), .v 50 (.ld false 1 (.t 49)), .cal (some 51) false 64051 80 [(.t 46), (.t 50)], m 45 51, .v 52 (.ext (.t 45) 0), .v 53 (.ext (.t 45) 1), m 6 52, m 5 53] [0,3,5,6,7,8,2000000]) irun_31
abbrev irun_11 : AK := .seq irun_30 irun_12
abbrev irun_10 : AK := .seq (.label 2) irun_11
abbrev irun_34 : AK := .seq (.reg [k 2 (ci 3)] [2,2000000]) .ret
abbrev irun_9 : AK := .seq irun_34 irun_10
abbrev irun_43 : AK := .seq (.reg [m 27 5, m 2 27] [2,2000000]) .ret
abbrev irun_41 : AK := .seq (.reg [m 25 5, bi 26 .neq 25 0] [0,3,5,26,2000000]) (.cond (.t 26) irun_43 .skip)
abbrev irun_40 : AK := .seq (.reg [m 23 0, .cal (some 24) false 64024 78 [(.t 23)], m 5 24] [0,3,5,2000000]) irun_41
abbrev irun_39 : AK := .seq irun_40 (.goto 1)
abbrev irun_46 : AK := .seq (.reg [.cal (some 31) false 64031 52 [], m 30 31, .v 32 (.ext (.t 30) 0), .v 33 (.ext (.t 30) 1), m 7 32, m 8 33] [0,3,7,8,2000000]) (.goto 2)
abbrev irun_53 : AK := .seq (.reg [m 44 5, m 2 44] [2,2000000]) .ret
abbrev irun_51 : AK := .seq (.reg [m 42 5, bi 43 .neq 42 0] [0,3,5,7,8,43,2000000]) (.cond (.t 43) irun_53 .skip)
abbrev irun_50 : AK := .seq (.reg [m 37 0, .cal (some 38) false 64038 79 [(.t 37)], m 36 38, .v 39 (.ext (.t 36) 0), .v 40 (.ext (.t 36) 1), .v 41 (.ext (.t 36) 2), m 7 39, m 8 40, m 5 41] [0,3,5,7,8,2000000]) irun_51
abbrev irun_49 : AK := .seq irun_50 (.goto 2)
abbrev irun_47 : AK := .seq (.reg [.v 35 (.bin .eql (.t 20) (.c (.int .u32 2))), m 34 35] [0,3,34,2000000]) (.cond (.t 34) irun_49 .skip)
abbrev irun_44 : AK := .seq (.reg [.v 29 (.bin .eql (.t 20) (.c (.int .u32 1))), m 28 29] [0,3,20,28,2000000]) (.cond (.t 28) irun_46 irun_47)
abbrev irun_37 : AK := .seq (.reg [.v 22 (.bin .eql (.t 20) (.c (.int .u32 0))), m 21 22] [0,3,20,21,2000000]) (.cond (.t 21) irun_39 irun_44)
abbrev irun_35 : AK := .seq (.reg [m 19 3, .v 20 (.bin .shr (.t 19) (.c (.int .u64 1)))] [0,3,20,2000000]) (.block 0 irun_37)
abbrev irun_8 : AK := .seq irun_35 irun_9
abbrev irun_57 : AK := .seq (.reg [k 2 (ci 6)] [2,2000000]) .ret
abbrev irun_55 : AK := .seq (.reg [m 17 4, .v 18 (.un .not (.t 17))] [0,3,18,2000000]) (.cond (.t 18) irun_57 .skip)
abbrev irun_54 : AK := .seq (.reg [m 10 0, .v 11 (.nilc (.t 10)), .v 12 (.fldA false 0 1 (.t 11)), .v 13 (.ld false 1 (.t 12)), .cal (some 14) false 64014 77 [(.t 13), (ci 3)], m 9 14, .v 15 (.ext (.t 9) 0), .v 16 (.ext (.t 9) 1), m 3 15, m 4 16] [0,3,4,2000000]) irun_55
abbrev irun_7 : AK := .seq irun_54 irun_8
def irun_6 : AK := .seq (.label 0) (.mid irun_7)
abbrev irun_5 : AK := .seq (.reg [k 7 (.c (.lit (.pointer none))), k 8 (.c (.lit (.pointer none)))] [0,2000000]) irun_6
abbrev irun_4 : AK := .seq (.reg [k 6 (ci 0)] [0,2000000]) irun_5
abbrev irun_3 : AK := .seq (.reg [k 5 (ci 0)] [0,2000000]) irun_4
abbrev irun_2 : AK := .seq (.reg [k 4 (.c (.bool false))] [0,2000000]) irun_3
abbrev irun_1 : AK := .seq (.reg [k 3 (.c (.int .u32 0))] [0,2000000]) irun_2
abbrev irun_S : AK := .scope irun_1
abbrev irun_0 : AK := .seq (.reg [k 2 (ci 0)] [0,2000000]) irun_S
abbrev irun : AK := irun_0
theorem irun_fn : FnOK Tryd.prog 67 64000 1 irun [.tmp 2] := ⟨_, Tryd.func67, by kernel_rfl⟩
theorem irun_spec {h : HP} {a0 : AV} {Post : HP → AV → List AV → Prop} (hp : HpN Tryd.prog irun [.tmp 2] 1 [(0, a0), (2000000, a0)] h Post) : Eng.Spec Tryd.prog 67 h [a0] Post := spec_fn irun_fn rfl [(0, a0), (2000000, a0)] ⟨rfl, rfl, trivial⟩ hp
abbrev inflate_4 : AK := .seq (.reg [u 65038 38 (.mov (.t 9)), u 65039 39 (.nilc (.t 38)), u 65040 40 (.fldA false 1 1 (.t 39)), u 65041 41 (.ld false 1 (.t 40)), u 65042 42 (.bts (.t 41)), u 65043 43 (.mov (.t 9)), u 65044 44 (.nilc (.t 43)), u 65045 45 (.fldA false 0 1 (.t 44)), u 65046 46 (.ld false 1 (.t 45)), .cal (some 47) true 65047 68 [(.t 46)], m 6 42, m 7 47, k 8 (ci 0)] [6,7,8]) .ret
abbrev inflate_8 : AK := .seq (.reg [m 37 10, k 6 (.c (.str [])), k 7 (ci 0), m 8 37] [6,7,8]) .ret
abbrev inflate_6 : AK := .seq (.reg [m 35 10, bi 36 .neq 35 0] [9,10,36]) (.cond (.t 36) inflate_8 .skip)
abbrev inflate_5 : AK := .seq (.reg [m 33 9, .cal (some 34) false 65034 67 [(.t 33)], m 10 34] [9,10]) inflate_6
abbrev inflate_3 : AK := .seq inflate_5 inflate_4
abbrev inflate_2 : AK := .seq (.reg [m 27 0, m 28 1, .cal (some 29) false 65029 66 [(.t 27), (.t 28)], m 30 2, .v 31 (.bld [.lit (.pointer none), .nilsl, .int .i64 0] [(0, 1, (.t 29)), (2, 1, (.t 30))]), .eff 32 false 65032 (.box 3 (.t 31)), m 9 32] [9]) inflate_3
abbrev inflate_11 : AK := .seq (.reg [k 6 (.c (.str [])), k 7 (ci 0), k 8 (ci 1)] [6,7,8]) .ret
abbrev inflate_9 : AK := .seq (.reg [m 11 1, bi 12 .lss 11 0, m 13 12, .gval 14 13 false false 65014 (.mov (.t 1)), .gval 15 13 false false 65015 (.mov (.t 0)), .gval 16 13 false false 65016 (.len true (.t 15)), .gval 17 13 false false 65017 (.bin .gtr (.t 14) (.t 16)), .v 18 (.pick (.t 13) (.c (.bool true)) (.t 17)), m 19 18, .gval 20 19 false false 65020 (.mov (.t 2)), .gval 21 19 false false 65021 (.bin .lss (.t 20) (ci 0)), .v 22 (.pick (.t 19) (.c (.bool true)) (.t 21)), m 23 22, .gval 24 23 false false 65024 (.mov (.t 2)), .gval 25 23 false false 65025 (.bin .gtr (.t 24) (ci 65536)), .v 26 (.pick (.t 23) (.c (.bool true)) (.t 25))] [0,1,2,26]) (.cond (.t 26) inflate_11 .skip)
abbrev inflate_1 : AK := .seq inflate_9 inflate_2
abbrev inflate_0 : AK := .seq (.reg [k 6 (.c (.str [])), k 7 (ci 0), k 8 (ci 0)] [0,1,2]) inflate_1
abbrev inflate : AK := inflate_0
theorem inflate_fn : FnOK Tryd.prog 44 65000 3 inflate [.tmp 6, .tmp 7, .tmp 8] := ⟨_, Tryd.func44, by kernel_rfl⟩
theorem inflate_spec {h : HP} {a0 a1 a2 : AV} {Post : HP → AV → List AV → Prop} (hp : HpN Tryd.prog inflate [.tmp 6, .tmp 7, .tmp 8] 3 [(0, a0), (1, a1), (2, a2)] h Post) : Eng.Spec Tryd.prog 44 h [a0, a1, a2] Post := spec_fn inflate_fn rfl [(0, a0), (1, a1), (2, a2)] ⟨rfl, rfl, rfl, trivial⟩ hp
abbrev ifixed_6 : AK := .seq (.reg [m 46 5, m 47 7, m 0 46, m 1 47] [0,1]) .ret
abbrev ifixed_5 : AK := .seq (.reg [m 42 3, .cal (some 43) false 66043 71 [(.t 42)], m 41 43, .v 44 (.ext (.t 41) 0), .v 45 (.ext (.t 41) 1), m 7 44, m 8 45] [5,7]) ifixed_6
abbrev ifixed_4 : AK := .seq (.reg [m 37 2, .cal (some 38) false 66038 71 [(.t 37)], m 36 38, .v 39 (.ext (.t 36) 0), .v 40 (.ext (.t 36) 1), m 5 39, m 6 40] [3,5]) ifixed_5
abbrev ifixed_12 : AK := .reg [bi 35 .add 30 1, m 30 35] [2,3,30]
abbrev ifixed_14 : AK := .reg [m 32 3, .eff 33 false 66033 (.bsl 1 [(ci 5)]), .eff 34 false 66034 (.app 1 8 (.t 32) (.t 33)), m 3 34] [2,3,30]
abbrev ifixed_11 : AK := .seq (.block 4 ifixed_14) ifixed_12
abbrev ifixed_10 : AK := .seq (.cond (.t 31) .skip (.exit 3)) ifixed_11
abbrev ifixed_9 : AK := .seq (.reg [bi 31 .lss 30 32] [2,3,30,31]) ifixed_10
abbrev ifixed_L0 : AK := .loop ifixed_9
abbrev ifixed_7 : AK := .seq (.reg [k 30 (ci 0)] [2,3,30]) (.block 3 ifixed_L0)
abbrev ifixed_3 : AK := .seq ifixed_7 ifixed_4
abbrev ifixed_21 : AK := .reg [bi 29 .add 9 1, m 9 29] [2,3,9]
abbrev ifixed_27 : AK := .reg [m 20 2, .eff 21 false 66021 (.bsl 1 [(ci 8)]), .eff 22 false 66022 (.app 1 8 (.t 20) (.t 21)), m 2 22] [2,3,9]
abbrev ifixed_30 : AK := .reg [m 26 2, .eff 27 false 66027 (.bsl 1 [(ci 9)]), .eff 28 false 66028 (.app 1 8 (.t 26) (.t 27)), m 2 28] [2,3,9]
abbrev ifixed_31 : AK := .reg [m 12 2, .eff 13 false 66013 (.bsl 1 [(ci 7)]), .eff 14 false 66014 (.app 1 8 (.t 12) (.t 13)), m 2 14] [2,3,9]
abbrev ifixed_28 : AK := .seq (.reg [m 24 4, bi 25 .lss 24 256, m 23 25] [2,3,9,23]) (.cond (.t 23) ifixed_30 ifixed_31)
abbrev ifixed_34 : AK := .reg [m 18 4, bi 19 .geq 18 280, m 15 19] [2,3,4,9,15]
abbrev ifixed_32 : AK := .seq (.reg [m 16 4, bi 17 .lss 16 144, m 15 17] [2,3,4,9,15]) (.cond (.t 15) .skip ifixed_34)
def ifixed_25 : AK := .seq ifixed_32 (.mid (.cond (.t 15) ifixed_27 ifixed_28))
abbrev ifixed_23 : AK := .seq (.reg [m 11 9, m 4 11] [2,3,4,9]) (.block 2 ifixed_25)
abbrev ifixed_20 : AK := .seq (.block 1 ifixed_23) ifixed_21
abbrev ifixed_19 : AK := .seq (.cond (.t 10) .skip (.exit 0)) ifixed_20
abbrev ifixed_18 : AK := .seq (.reg [bi 10 .lss 9 288] [2,3,9,10]) ifixed_19
abbrev ifixed_L1 : AK := .loop ifixed_18
abbrev ifixed_16 : AK := .seq (.reg [k 9 (ci 0)] [2,3,9]) (.block 0 ifixed_L1)
abbrev ifixed_2 : AK := .seq ifixed_16 ifixed_3
abbrev ifixed_1 : AK := .seq (.reg [k 2 (.c (.nilsl)), k 3 (.c (.nilsl))] [2,3]) ifixed_2
abbrev ifixed_0 : AK := .seq (.reg [k 0 (.c (.lit (.pointer none))), k 1 (.c (.lit (.pointer none)))] []) ifixed_1
abbrev ifixed : AK := ifixed_0
theorem ifixed_fn : FnOK Tryd.prog 52 66000 0 ifixed [.tmp 0, .tmp 1] := ⟨_, Tryd.func52, by kernel_rfl⟩
theorem ifixed_spec {h : HP} {Post : HP → AV → List AV → Prop} (hp : HpN Tryd.prog ifixed [.tmp 0, .tmp 1] 0 [] h Post) : Eng.Spec Tryd.prog 52 h [] Post := spec_fn ifixed_fn rfl [] trivial hp
abbrev iorder_1 : AK := .seq (.reg [.v 1 (.bld [.int .i64 0, .int .i64 0, .int .i64 0, .int .i64 0, .int .i64 0, .int .i64 0, .int .i64 0, .int .i64 0, .int .i64 0, .int .i64 0, .int .i64 0, .int .i64 0, .int .i64 0, .int .i64 0, .int .i64 0, .int .i64 0, .int .i64 0, .int .i64 0, .int .i64 0] [(0, 1, (ci 16)), (1, 1, (ci 17)), (2, 1, (ci 18)), (3, 1, (ci 0)), (4, 1, (ci 8)), (5, 1, (ci 7)), (6, 1, (ci 9)), (7, 1, (ci 6)), (8, 1, (ci 10)), (9, 1, (ci 5)), (10, 1, (ci 11)), (11, 1, (ci 4)), (12, 1, (ci 12)), (13, 1, (ci 3)), (14, 1, (ci 13)), (15, 1, (ci 2)), (16, 1, (ci 14)), (17, 1, (ci 1)), (18, 1, (ci 15))]), .effN false 67000 (.st 19 (.t 0) (.t 1))] [0]) .ret
abbrev iorder_0 : AK := .seq (.reg [.eff 0 false 67000 (.alloc [.int .i64 0, .int .i64 0, .int .i64 0, .int .i64 0, .int .i64 0, .int .i64 0, .int .i64 0, .int .i64 0, .int .i64 0, .int .i64 0, .int .i64 0, .int .i64 0, .int .i64 0, .int .i64 0, .int .i64 0, .int .i64 0, .int .i64 0, .int .i64 0, .int .i64 0])] [0]) iorder_1
abbrev iorder : AK := iorder_0
theorem iorder_fn : FnOK Tryd.prog 90 67000 0 iorder [.cell 0 true 19] := ⟨_, Tryd.func90, by kernel_rfl⟩
theorem iorder_spec {h : HP} {Post : HP → AV → List AV → Prop} (hp : HpN Tryd.prog iorder [.cell 0 true 19] 0 [] h Post) : Eng.Spec Tryd.prog 90 h [] Post := spec_fn iorder_fn rfl [] trivial hp
abbrev ilenb_4 : AK := .seq (.reg [m 14 0, bi 15 .rem 14 4, .v 16 (.bin .add (ci 4) (.t 15)), m 17 4, b 18 .shl 16 17, .v 19 (.bin .add (ci 3) (.t 18)), m 20 4, m 2 19, m 3 20] [2,3]) .ret
abbrev ilenb_3 : AK := .seq (.reg [m 11 0, bi 12 .quo 11 4, bi 13 .sub 12 1, m 4 13] [0,4]) ilenb_4
abbrev ilenb_7 : AK := .seq (.reg [m 9 0, .v 10 (.bin .add (ci 3) (.t 9)), m 2 10, k 3 (ci 0)] [2,3]) .ret
abbrev ilenb_5 : AK := .seq (.reg [m 7 0, bi 8 .lss 7 8] [0,8]) (.cond (.t 8) ilenb_7 .skip)
abbrev ilenb_2 : AK := .seq ilenb_5 ilenb_3
abbrev ilenb_10 : AK := .seq (.reg [k 2 (ci 258), k 3 (ci 0)] [2,3]) .ret
abbrev ilenb_8 : AK := .seq (.reg [m 5 0, bi 6 .eql 5 28] [0,6]) (.cond (.t 6) ilenb_10 .skip)
abbrev ilenb_1 : AK := .seq ilenb_8 ilenb_2
abbrev ilenb_0 : AK := .seq (.reg [k 2 (ci 0), k 3 (ci 0)] [0]) ilenb_1
abbrev ilenb : AK := ilenb_0
theorem ilenb_fn : FnOK Tryd.prog 57 68000 1 ilenb [.tmp 2, .tmp 3] := ⟨_, Tryd.func57, by kernel_rfl⟩
theorem ilenb_spec {h : HP} {a0 : AV} {Post : HP → AV → List AV → Prop} (hp : HpN Tryd.prog ilenb [.tmp 2, .tmp 3] 1 [(0, a0)] h Post) : Eng.Spec Tryd.prog 57 h [a0] Post := spec_fn ilenb_fn rfl [(0, a0)] ⟨rfl, trivial⟩ hp
abbrev idisb_3 : AK := .seq (.reg [m 12 0, bi 13 .rem 12 2, .v 14 (.bin .add (ci 2) (.t 13)), m 15 4, b 16 .shl 14 15, .v 17 (.bin .add (ci 1) (.t 16)), m 18 4, m 2 17, m 3 18] [2,3]) .ret
abbrev idisb_2 : AK := .seq (.reg [m 9 0, bi 10 .quo 9 2, bi 11 .sub 10 1, m 4 11] [0,4]) idisb_3
abbrev idisb_6 : AK := .seq (.reg [m 7 0, .v 8 (.bin .add (ci 1) (.t 7)), m 2 8, k 3 (ci 0)] [2,3]) .ret
abbrev idisb_4 : AK := .seq (.reg [m 5 0, bi 6 .lss 5 4] [0,6]) (.cond (.t 6) idisb_6 .skip)
abbrev idisb_1 : AK := .seq idisb_4 idisb_2
abbrev idisb_0 : AK := .seq (.reg [k 2 (ci 0), k 3 (ci 0)] [0]) idisb_1
abbrev idisb : AK := idisb_0
theorem idisb_fn : FnOK Tryd.prog 58 69000 1 idisb [.tmp 2, .tmp 3] := ⟨_, Tryd.func58, by kernel_rfl⟩
theorem idisb_spec {h : HP} {a0 : AV} {Post : HP → AV → List AV → Prop} (hp : HpN Tryd.prog idisb [.tmp 2, .tmp 3] 1 [(0, a0)] h Post) : Eng.Spec Tryd.prog 58 h [a0] Post := spec_fn idisb_fn rfl [(0, a0)] ⟨rfl, trivial⟩ hp
abbrev fromlittle_3 : AK := .seq (.reg [m 21 3, m 2 21] [2]) .ret
abbrev fromlittle_9 : AK := .reg [bi 20 .add 8 1, m 8 20] [0,3,7,8]
abbrev fromlittle_12 : AK := .reg [m 11 3, m 12 0, m 13 4, .v 14 (.sidx (.t 12) (.t 13)), .v 15 (.cvi .u64 (.t 14)), m 16 4, .v 17 (.bin .mul (ci 8) (.t 16)), b 18 .shl 15 17, b 19 .or 11 18, m 3 19] [0,3,7,8]
abbrev fromlittle_11 : AK := .seq (.reg [m 10 8, m 4 10] [0,3,4,7,8]) fromlittle_12
abbrev fromlittle_8 : AK := .seq (.block 1 fromlittle_11) fromlittle_9
abbrev fromlittle_7 : AK := .seq (.cond (.t 9) .skip (.exit 0)) fromlittle_8
abbrev fromlittle_6 : AK := .seq (.reg [b 9 .lss 8 7] [0,3,7,8,9]) fromlittle_7
abbrev fromlittle_L0 : AK := .loop fromlittle_6
abbrev fromlittle_4 : AK := .seq (.reg [m 5 0, .v 6 (.len true (.t 5)), .v 7 (.mm false (.t 6) (ci 8)), k 8 (ci 0)] [0,3,7,8]) (.block 0 fromlittle_L0)
abbrev fromlittle_2 : AK := .seq fromlittle_4 fromlittle_3
abbrev fromlittle_1 : AK := .seq (.reg [k 3 (.c (.int .u64 0))] [0,3]) fromlittle_2
abbrev fromlittle_0 : AK := .seq (.reg [k 2 (.c (.int .u64 0))] [0]) fromlittle_1
abbrev fromlittle : AK := fromlittle_0
theorem fromlittle_fn : FnOK Tryd.prog 88 80000 1 fromlittle [.tmp 2] := ⟨_, Tryd.func88, by kernel_rfl⟩
theorem fromlittle_spec {h : HP} {a0 : AV} {Post : HP → AV → List AV → Prop} (hp : HpN Tryd.prog fromlittle [.tmp 2] 1 [(0, a0)] h Post) : Eng.Spec Tryd.prog 88 h [a0] Post := spec_fn fromlittle_fn rfl [(0, a0)] ⟨rfl, trivial⟩ hp
end Go.Proofs.YtjoefngnjoofeaaDoor.Cod
namespace Go.Proofs.YtjoefngnjoofeaaDoor.Pk
open Eng
set_option maxRecDepth 10000
def ST5 : Nat := 79038
def OUT5 : Nat := 73035
attribute [go_sem] ST5 OUT5
theorem raw_succ (t : Bs) (most n : Nat) (S : SS) : rawS t most (n + 1) S = if S.err ≠ 0 then S else rawS t most n (putS most (UInt8.ofNat (numS t 8 S).1) (numS t 8 S).2) := rfl
end Go.Proofs.YtjoefngnjoofeaaDoor.Pk
namespace Go.Proofs.YtjoefngnjoofeaaDoor.Pk
open Eng
set_option maxRecDepth 10000
def upTo (f : Nat → Nat) (n : Nat) : List Nat := (List.range n).map f
theorem upTo_len (f : Nat → Nat) (n : Nat) : (upTo f n).length = n := by simp [upTo]
theorem upTo_succ (f : Nat → Nat) (n : Nat) : upTo f (n + 1) = upTo f n ++ [f n] := by simp [upTo, List.range_succ]
theorem upTo_zero (f : Nat → Nat) : upTo f 0 = [] := (rfl)
theorem nats_take {xs : List Nat} : sub3 (nats xs) 0 xs.length = nats xs := by simp [sub3, nats, List.take_of_length_le]
def fixF (i : Nat) : Nat := if 256 ≤ i ∧ i < 280 then 7 else if 144 ≤ i ∧ i < 256 then 9 else 8
theorem fixL_eq : upTo fixF 288 = fixL := by decide +kernel
theorem fixD_eq : upTo (fun _ => 5) 32 = fixD := by decide +kernel
theorem fixL_ok : (∀ n ∈ fixL, n ≤ 15) ∧ fixL.length = 288 ∧ chkL fixL = true := by decide +kernel
theorem fixD_ok : (∀ n ∈ fixD, n ≤ 15) ∧ fixD.length = 32 ∧ chkL fixD = true := by decide +kernel
end Go.Proofs.YtjoefngnjoofeaaDoor.Pk
namespace Go.Proofs.YtjoefngnjoofeaaDoor.Pk
open Eng
set_option maxRecDepth 10000
theorem take15 {l : List Nat} (h : ∀ n ∈ l, n ≤ 15) (k : Nat) : ∀ n ∈ l.take k, n ≤ 15 := fun n hn => h n (List.mem_of_mem_take hn)
theorem drop15 {l : List Nat} (h : ∀ n ∈ l, n ≤ 15) (k : Nat) : ∀ n ∈ l.drop k, n ≤ 15 := fun n hn => h n (List.mem_of_mem_drop hn)
theorem lens_succ (t : Bs) (fl : List Nat) (N k : Nat) (l : List Nat) (S : SS) : lensS t fl N (k + 1) l S = if N ≤ l.length ∨ S.err ≠ 0 then (l, S) else
    if (overS N l (timesS t l (symS t fl S).1 (symS t fl S).2)).err ≠ 0 then (l, overS N l (timesS t l (symS t fl S).1 (symS t fl S).2))
    else lensS t fl N k (l ++ List.replicate (timesS t l (symS t fl S).1 (symS t fl S).2).1 (timesS t l (symS t fl S).1 (symS t fl S).2).2.1) (overS N l (timesS t l (symS t fl S).1 (symS t fl S).2)) := rfl
theorem nats_rep (l : List Nat) (k x : Nat) : nats (l ++ List.replicate k x) ++ [.int .i64 (x : Int)] = nats (l ++ List.replicate (k + 1) x) := by
 rw [nats_app, List.append_assoc, ← List.replicate_succ']
end Go.Proofs.YtjoefngnjoofeaaDoor.Pk
namespace Go.Proofs.YtjoefngnjoofeaaDoor.Pk
open Eng
set_option maxRecDepth 10000
end Go.Proofs.YtjoefngnjoofeaaDoor.Pk
namespace Go.Proofs.YtjoefngnjoofeaaDoor.Pk
open Eng
set_option maxRecDepth 10000
end Go.Proofs.YtjoefngnjoofeaaDoor.Pk
namespace Go.Proofs.YtjoefngnjoofeaaDoor.Pk
open Eng
set_option maxRecDepth 10000
def lensF (t : Bs) (nl nd : Nat) (b : List Nat × SS) : (List Nat × List Nat) × SS :=
 if b.2.err ≠ 0 then (([], []), b.2) else
 if b.1.getD 256 0 = 0 ∨ chkL (b.1.take nl) = false ∨ chkL (b.1.drop nl) = false then (([], []), { b.2 with err := 3 }) else ((b.1.take nl, b.1.drop nl), b.2)
def firstF (t : Bs) (nl nd : Nat) (a : List Nat × SS) : (List Nat × List Nat) × SS :=
 if a.2.err ≠ 0 then (([], []), a.2) else if chkL a.1 = false then (([], []), { a.2 with err := 3 }) else lensF t nl nd (lensS t a.1 (nl + nd) (nl + nd) [] a.2)
theorem dynS_eq (t : Bs) (S : SS) : dynS t S = if 8 * t.length < S.p + 14 then (([], []), { S with err := 6 }) else if 286 < numAt t S.p 5 + 257 ∨ 30 < numAt t (S.p + 5) 5 + 1 then (([], []), { S with p := S.p + 14, err := 3 }) else
    firstF t (numAt t S.p 5 + 257) (numAt t (S.p + 5) 5 + 1) (firstS t (numAt t (S.p + 10) 4 + 4) (numAt t (S.p + 10) 4 + 4) (List.replicate 19 0) { S with p := S.p + 14 }) := rfl
theorem firstS_succ (t : Bs) (nc k : Nat) (l : List Nat) (S : SS) : firstS t nc (k + 1) l S = if S.err ≠ 0 then (l, S) else firstS t nc k (l.set (placesL.getD (nc - (k + 1)) 0) (numS t 3 S).1) (numS t 3 S).2 := rfl
theorem firstS_err (t : Bs) (nc k : Nat) (l : List Nat) (S : SS) (h : S.err ≠ 0) : firstS t nc k l S = (l, S) := by
 cases k with
 | zero => rfl
 | succ k => rw [firstS_succ, if_pos h]
theorem places_lt : ∀ j, j < 19 → placesL.getD j 0 < 19 := by decide
theorem nats_set {l : List Nat} {i x : Nat} : (nats l).set i (.int .i64 (x : Int)) = nats (l.set i x) := by simp [nats, List.map_set]
end Go.Proofs.YtjoefngnjoofeaaDoor.Pk
namespace Go.Proofs.YtjoefngnjoofeaaDoor.Pk
open Eng
set_option maxRecDepth 10000
end Go.Proofs.YtjoefngnjoofeaaDoor.Pk
namespace Go.Proofs.YtjoefngnjoofeaaDoor.Pk
open Eng
set_option maxRecDepth 10000
theorem shrN (x k : Nat) (hk : k ≤ 31) : ((x : Nat) : Int).fdiv (2 ^ min k 32) = ((x / 2 ^ k : Nat) : Int) := by
 rw [Nat.min_eq_left (by omega), show (2 : Int) ^ k = ((2 ^ k : Nat) : Int) by push_cast; rfl, Int.fdiv_eq_ediv_of_nonneg _ (Int.natCast_nonneg _)]
 rfl
theorem low_one (x : Nat) : lowB x 1 = [x % 2 == 1] := by
 simp [lowB, Nat.testBit_zero]
 rw [Bool.eq_iff_iff]; simp
theorem wcode_ok (bs : List Bool) (x n : Nat) (hx : x < 2 ^ 32) (hn : n ≤ 32) (hb : bs.length ≤ 100000000000) : Eng.Spec Tryd.prog 55 (wrH bs) [.vptr WR 0, .int .u32 x, .int .i64 n]
    (fun h' v ar => h' = wrH (bs ++ bitsM x n) ∧ v = .tup [] ∧ ar = [.vptr WR 0, .int .u32 x, .int .i64 n]) := by
 refine Cod.wcode_spec (fun E R hN hR => ?_)
 by_cases h0 : n = 0
 ·subst h0
  rw [show bs ++ bitsM x 0 = bs by simp [bitsM]] at hR
  simp (disch := omega) only [go_sem, simprocAttr]
  (repeat (first | refine gskip_of ?_ | refine gcskip_of ?_ | refine gopen_of ?_) <;> simp (disch := omega) only [go_sem, simprocAttr])
  exact hR.le (h' := wrH bs) (by simp (disch := omega) only [go_sem, simprocAttr, wrH, wrK, wrA]) ⟨rfl, rfl, rfl⟩
 ·simp (disch := omega) only [go_sem, simprocAttr]
  (repeat (first | refine gskip_of ?_ | refine gcskip_of ?_ | refine gopen_of ?_) <;> simp (disch := omega) only [go_sem, simprocAttr])
  refine vcW_loop hN (fun j : Nat => ⟨[(0, .vptr WR 0), (1, .int .u32 x), (6, .int .i64 ((j : Int) - 1)), (2000000, .vptr WR 0), (2000001, .int .u32 x), (2000002, .int .i64 n)], wrH (bs ++ bitsM (x / 2 ^ j) (n - j))⟩) (fun j => j ≤ n) (fun j => j) n (.le (by simp (disch := omega) only [go_sem, simprocAttr, show n - n = 0 by omega, bitsM, List.append_nil, wrH, wrK, wrA])) (by omega) ?_
  rintro j R1 hj hR1
  cases j with
  | zero =>
   rw [show x / 2 ^ 0 = x by simp, Nat.sub_zero]
   simp (disch := omega) only [go_sem, simprocAttr]
   exact hR.le (by simp (disch := omega) only [go_sem, simprocAttr, wrH, wrK, wrA]) ⟨rfl, rfl, rfl⟩
  | succ j =>
   have hs := shrN x j (by omega)
   have hq : x / 2 ^ j < 2 ^ 32 := Nat.lt_of_le_of_lt (Nat.div_le_self _ _) hx
   have hc := wbits_ok (bs ++ bitsM (x / 2 ^ (j + 1)) (n - (j + 1))) (x / 2 ^ j) 1 hq (by omega) (by rw [List.length_append, bitsM_len]; omega)
   have e : bs ++ bitsM (x / 2 ^ (j + 1)) (n - (j + 1)) ++ lowB (x / 2 ^ j) 1 = bs ++ bitsM (x / 2 ^ j) (n - j) := by
    rw [List.append_assoc, low_one, show n - j = (n - (j + 1)) + 1 by omega, bitsM, Nat.div_div_eq_div_mul, Nat.pow_succ]
   rw [e, show ((1 : Nat) : Int) = 1 from rfl] at hc
   simp (disch := omega) only [go_sem, simprocAttr, show (j : Int) + 1 - 1 = j by omega, hs]
   refine call_win (wrH (bs ++ bitsM (x / 2 ^ (j + 1)) (n - (j + 1)))) hc (by simp (disch := omega) only [go_sem, simprocAttr, wrH, wrK, wrA]) nofun ?_
   rintro h' v ar ⟨rfl, rfl, rfl⟩
   refine ⟨by simp (disch := omega) only [go_sem, simprocAttr, wrH, wrK, wrA], rfl, ?_⟩
   simp (disch := omega) only [go_sem, simprocAttr]
   exact hR1 j _ (by omega) (by omega) (.le (by simp (disch := omega) only [go_sem, simprocAttr, wrH, wrK, wrA]))
def alB (bs : List Bool) : List Bool := bs ++ List.replicate ((8 - bs.length % 8) % 8) false
theorem al_len (bs : List Bool) : (alB bs).length = 8 * ((bs.length + 7) / 8) := by
 simp only [alB, List.length_append, List.length_replicate]; omega
theorem low_zero (n : Nat) : lowB 0 n = List.replicate n false := by
 unfold lowB
 rw [List.map_congr_left (g := fun _ => false) (fun i _ => Nat.zero_testBit i)]
 simp [List.map_const']
theorem walign_ok (bs : List Bool) (hb : bs.length ≤ 100000000000) : Eng.Spec Tryd.prog 83 (wrH bs) [.vptr WR 0]
    (fun h' v ar => h' = wrH (alB bs) ∧ v = .tup [] ∧ ar = [.vptr WR 0]) := by
 refine Cod.walign_spec (fun E R hN hR => ?_)
 have e8 : bs.length - 8 * (bs.length / 8) = bs.length % 8 := by omega
 by_cases h0 : bs.length % 8 = 0
 ·have e : alB bs = bs := by simp [alB, h0]
  rw [e] at hR
  simp (disch := omega) only [go_sem, simprocAttr, wrH, wrK, wrA, e8]
  exact hR.le (by simp (disch := omega) only [go_sem, simprocAttr, wrH, wrK, wrA, e8]) ⟨rfl, rfl, rfl⟩
 ·have hc := wbits_ok bs 0 (8 - bs.length % 8) (by decide) (by omega) (by omega)
  have e : bs ++ lowB 0 (8 - bs.length % 8) = alB bs := by rw [low_zero, alB, Nat.mod_eq_of_lt (show 8 - bs.length % 8 < 8 by omega)]
  rw [e] at hc
  have ei : ((8 - bs.length % 8 : Nat) : Int) = 8 - ((bs.length % 8 : Nat) : Int) := by omega
  rw [ei, show ((0 : Nat) : Int) = 0 from rfl] at hc
  have hg : (0 : Int) < ((bs.length % 8 : Nat) : Int) := by omega
  simp (disch := omega) only [go_sem, simprocAttr, wrH, wrK, wrA, e8]
  refine call_win (wrH bs) hc (by simp (disch := omega) only [go_sem, simprocAttr, wrH, wrK, wrA, e8]) nofun ?_
  rintro h' v ar ⟨rfl, rfl, rfl⟩
  refine ⟨by simp (disch := omega) only [go_sem, simprocAttr, wrH, wrK, wrA], rfl, ?_⟩
  simp (disch := omega) only [go_sem, simprocAttr]
  exact hR.le (by simp (disch := omega) only [go_sem, simprocAttr, wrH, wrK, wrA]) ⟨rfl, rfl, rfl⟩
theorem byte_tail (a : List Bool) (s : Bs) (k i : Nat) (ha : a.length = 8 * k) (hi : i < s.length) : byteN (a ++ restB s 0) (k + i) = s.getD i 0 := by
 unfold byteN
 apply UInt8.toNat_inj.1
 rw [UInt8.toNat_ofNat', List.drop_append, List.drop_of_length_le (by omega), List.nil_append, show 8 * (k + i) - a.length = 8 * i by omega]
 have h1 : (restB s 0).drop (8 * i) = restB s (8 * i) := by
  unfold restB
  apply List.ext_getElem?
  intro j
  simp only [List.getElem?_drop, List.getElem?_map, List.getElem?_range', Nat.sub_zero, Nat.zero_add]
  by_cases h : 8 * i + j < 8 * s.length
  ·rw [List.getElem?_range h, List.getElem?_range (by omega)]; rfl
  ·rw [List.getElem?_eq_none (by simp; omega), List.getElem?_eq_none (by simp; omega)]; rfl
 rw [h1, ← numB_mod, numB_at s (8 * i) 8 (by omega), num_byte]
theorem pack_bytes (a : List Bool) (s : Bs) (k : Nat) (ha : a.length = 8 * k) : packN (a ++ restB s 0) (k + s.length) = packN a k ++ s := by
 apply List.ext_getElem?
 intro j
 by_cases hj : j < k
 ·rw [List.getElem?_append_left (by rw [pack_len]; exact hj)]
  have := congrArg (fun l => l[j]?) (pack_app a (restB s 0) k (by omega))
  rw [← this]
  unfold packN
  rw [List.getElem?_map, List.getElem?_map, List.getElem?_range (by omega), List.getElem?_range hj]
 ·rw [List.getElem?_append_right (by rw [pack_len]; omega), pack_len]
  unfold packN
  by_cases hj2 : j < k + s.length
  ·rw [List.getElem?_map, List.getElem?_range hj2, Option.map_some, show j = k + (j - k) by omega, byte_tail a s k (j - k) ha (by omega), List.getD_eq_getElem?_getD, List.getElem?_eq_getElem (by omega), show k + (j - k) - k = j - k by omega, List.getElem?_eq_getElem (by omega)]
   rfl
  ·rw [List.getElem?_eq_none (by simp; omega), List.getElem?_eq_none (by omega)]
theorem wbytes_ok (bs : List Bool) (s : Bs) (hb : bs.length ≤ 10000000000) (hs : s.length ≤ 1000000000) : Eng.Spec Tryd.prog 72 (wrH bs) [.vptr WR 0, .str s]
    (fun h' v ar => h' = wrH (alB bs ++ restB s 0) ∧ v = .tup [] ∧ ar = [.vptr WR 0, .str s]) := by
 refine Cod.wbytes_spec (fun E R hN hR => ?_)
 have hal := al_len bs
 have hrl := rest_len s 0
 generalize hk : (bs.length + 7) / 8 = k at *
 have ek : (alB bs).length / 8 = k := by omega
 have hl : (alB bs ++ restB s 0).length = 8 * (k + s.length) := by rw [List.length_append, hal, hrl]; omega
 have el : (alB bs ++ restB s 0).length / 8 = k + s.length := by omega
 have hpb := pack_bytes (alB bs) s k hal
 have hn1 : numB ((alB bs).drop (8 * k)) = 0 := by rw [List.drop_of_length_le (by omega)]; rfl
 have hn2 : numB ((alB bs ++ restB s 0).drop (8 * (k + s.length))) = 0 := by rw [List.drop_of_length_le (by omega)]; rfl
 have hpl := pack_len (alB bs) k
 simp (disch := omega) only [go_sem, simprocAttr]
 refine call_win (wrH bs) (walign_ok bs (by omega)) (by simp (disch := omega) only [go_sem, simprocAttr, wrH, wrK, wrA]) nofun ?_
 rintro h' v ar ⟨rfl, rfl, rfl⟩
 refine ⟨by simp (disch := omega) only [go_sem, simprocAttr, wrH, wrK, wrA], rfl, ?_⟩
 simp (disch := omega) only [go_sem, simprocAttr, wrH, wrK, wrA, ek, take_all, hpl, show (alB bs).length - 8 * k = 0 by omega, hn1]
 refine hR.le ?_ ⟨rfl, rfl, rfl⟩
 simp (disch := omega) only [go_sem, simprocAttr, wrH, wrK, wrA, el, show (alB bs ++ restB s 0).length - 8 * (k + s.length) = 0 by omega, hn2]
 rw [← List.length_append, el, hpb]
def textB (bs : List Bool) : Bs := packN bs ((bs.length + 7) / 8)
theorem bytes_pack (l : Bs) : bytesOf (l.map ub) = l := by
 simp [bytesOf, List.map_map]
 refine (List.map_congr_left (fun c _ => ?_)).trans (List.map_id l)
 simp [ub, byteOfAV]
theorem allB_pack (l : Bs) : allB (l.map ub) = true := by simp [allB, ub, isB]
theorem wtext_ok (bs : List Bool) (hb : bs.length ≤ 100000000000) : Eng.Spec Tryd.prog 59 (wrH bs) [.vptr WR 0]
    (fun h' v ar => h' = wrH bs ∧ v = .str (textB bs) ∧ ar = [.vptr WR 0]) := by
 refine Cod.wtext_spec (fun E R hN hR => ?_)
 have e8 : bs.length - 8 * (bs.length / 8) = bs.length % 8 := by omega
 have hpl := pack_len bs (bs.length / 8)
 have hbp := bytes_pack (packN bs (bs.length / 8))
 have hba := allB_pack (packN bs (bs.length / 8))
 by_cases h0 : bs.length % 8 = 0
 ·have e : textB bs = packN bs (bs.length / 8) := by unfold textB; congr 1; omega
  rw [e] at hR
  simp (disch := omega) only [go_sem, simprocAttr, wrH, wrK, wrA, e8, take_all, hpl, hbp, hba]
  exact hR.le (by simp (disch := omega) only [go_sem, simprocAttr, wrH, wrK, wrA, e8]) ⟨rfl, rfl, rfl⟩
 ·have e : textB bs = packN bs (bs.length / 8) ++ [byteN bs (bs.length / 8)] := by unfold textB; rw [show (bs.length + 7) / 8 = bs.length / 8 + 1 by omega, pack_succ]
  rw [e] at hR
  have hg : (0 : Int) < ((bs.length % 8 : Nat) : Int) := by omega
  have hby := byte_of bs (bs.length / 8)
  have hb1 : bytesOf [.int .u8 ((byteN bs (bs.length / 8)).toNat : Int)] = [byteN bs (bs.length / 8)] := bytes_pack [_]
  have hb2 : allB [.int .u8 ((byteN bs (bs.length / 8)).toNat : Int)] = true := allB_pack [_]
  simp (disch := omega) only [go_sem, simprocAttr, wrH, wrK, wrA, e8, take_all, hpl, hbp, hba, hby, hb1, hb2]
  exact hR.le (by simp (disch := omega) only [go_sem, simprocAttr, wrH, wrK, wrA, e8]) ⟨rfl, rfl, rfl⟩
end Go.Proofs.YtjoefngnjoofeaaDoor.Pk
namespace Go.Proofs.YtjoefngnjoofeaaDoor.Pk
open Eng
set_option maxRecDepth 10000
def IST : Nat := 65032
def OUTI : Nat := 60022
attribute [go_sem] IST OUTI
def stI (s : Bs) (o most a hv : Nat) (out : Bs) : HP := [(IST, .var [.vptr RD 0, .sl OUTI 0 out.length, .int .i64 most]), (OUTI, .arr 1 (out.map ub)), (RD, .var (rdA s a hv o))]
theorem iput_ok (s : Bs) (o most a hv : Nat) (out : Bs) (hm : most ≤ 1000000) (ho : out.length ≤ most) (c : UInt8) : Eng.Spec Tryd.prog 81 (stI s o most a hv out) [.vptr IST 0, .int .u8 (c.toNat : Int)]
    (fun h' v ar => h' = stI s o most a hv (if out.length = most then out else out ++ [c]) ∧ v = .int .i64 (if out.length = most then 2 else 0 : Nat) ∧ ar = [.vptr IST 0, .int .u8 (c.toNat : Int)]) := by
 refine Cod.iput_spec (fun E R hN hR => ?_)
 have hc := c.toNat_lt
 by_cases hf : out.length = most
 ·rw [if_pos hf, if_pos hf] at hR
  simp (disch := omega) only [go_sem, simprocAttr, stI, rdA]
  (repeat (first | refine gskip_of ?_ | refine gcskip_of ?_ | refine gopen_of ?_) <;> simp (disch := omega) only [go_sem, simprocAttr])
  exact hR.le (by simp (disch := omega) only [go_sem, simprocAttr, stI, rdA]) ⟨rfl, rfl, rfl⟩
 ·rw [if_neg hf, if_neg hf] at hR
  simp (disch := omega) only [go_sem, simprocAttr, stI, rdA]
  (repeat (first | refine gskip_of ?_ | refine gcskip_of ?_ | refine gopen_of ?_) <;> simp (disch := omega) only [go_sem, simprocAttr])
  refine hR.le ?_ ⟨rfl, rfl, rfl⟩
  simp (disch := omega) only [go_sem, simprocAttr, stI, rdA]
  rw [UInt8.ofNat_toNat]
theorem len_wrap : ∀ i : Nat, i < 28 → 8 ≤ i → IntKind.i64.wrap (3 + IntKind.i64.wrap ((4 + (i : Int) % 4) * 2 ^ min ((i : Int) / 4 - 1).toNat 64)) = ((3 + (4 + i % 4) * 2 ^ (i / 4 - 1) : Nat) : Int) ∧ (i : Int) / 4 - 1 = ((i / 4 - 1 : Nat) : Int) := by decide +kernel
theorem dis_wrap : ∀ i : Nat, i < 30 → 4 ≤ i → IntKind.i64.wrap (1 + IntKind.i64.wrap ((2 + (i : Int) % 2) * 2 ^ min ((i : Int) / 2 - 1).toNat 64)) = ((1 + (2 + i % 2) * 2 ^ (i / 2 - 1) : Nat) : Int) ∧ (i : Int) / 2 - 1 = ((i / 2 - 1 : Nat) : Int) := by decide +kernel
theorem ilenb_ok (i : Nat) (hi : i ≤ 28) : SpecR Tryd.prog 57 [.int .i64 i] (.tup [.int .i64 ((lenB i).1 : Nat), .int .i64 ((lenB i).2 : Nat)]) := by
 refine Cod.ilenb_spec (fun E R hN hR => ?_)
 by_cases h28 : i = 28
 ·subst h28
  simp (disch := omega) only [go_sem, simprocAttr]
  exact hR.le (by simp (disch := omega) only [go_sem, simprocAttr]) ⟨rfl, rfl⟩
 ·by_cases h8 : i < 8
  ·have e : lenB i = (3 + i, 0) := by unfold lenB; rw [if_neg h28, if_pos h8]
   rw [e] at hR
   simp (disch := omega) only [go_sem, simprocAttr]
   (repeat (first | refine gskip_of ?_ | refine gcskip_of ?_ | refine gopen_of ?_) <;> simp (disch := omega) only [go_sem, simprocAttr])
   exact hR.le (by simp (disch := omega) only [go_sem, simprocAttr]) ⟨rfl, rfl⟩
  ·have e : lenB i = (3 + (4 + i % 4) * 2 ^ (i / 4 - 1), i / 4 - 1) := by unfold lenB; rw [if_neg h28, if_neg h8]
   rw [e] at hR
   simp (disch := omega) only [go_sem, simprocAttr]
   (repeat (first | refine gskip_of ?_ | refine gcskip_of ?_ | refine gopen_of ?_) <;> simp (disch := omega) only [go_sem, simprocAttr])
   obtain ⟨w1, w2⟩ := len_wrap i (by omega) (by omega)
   rw [w1, w2]
   exact hR.le (by simp (disch := omega) only [go_sem, simprocAttr]) ⟨rfl, rfl⟩
theorem idisb_ok (i : Nat) (hi : i ≤ 29) : SpecR Tryd.prog 58 [.int .i64 i] (.tup [.int .i64 ((disB i).1 : Nat), .int .i64 ((disB i).2 : Nat)]) := by
 refine Cod.idisb_spec (fun E R hN hR => ?_)
 by_cases h4 : i < 4
 ·have e : disB i = (1 + i, 0) := by unfold disB; rw [if_pos h4]
  rw [e] at hR
  simp (disch := omega) only [go_sem, simprocAttr]
  (repeat (first | refine gskip_of ?_ | refine gcskip_of ?_ | refine gopen_of ?_) <;> simp (disch := omega) only [go_sem, simprocAttr])
  exact hR.le (by simp (disch := omega) only [go_sem, simprocAttr]) ⟨rfl, rfl⟩
 ·have e : disB i = (1 + (2 + i % 2) * 2 ^ (i / 2 - 1), i / 2 - 1) := by unfold disB; rw [if_neg h4]
  rw [e] at hR
  simp (disch := omega) only [go_sem, simprocAttr]
  (repeat (first | refine gskip_of ?_ | refine gcskip_of ?_ | refine gopen_of ?_) <;> simp (disch := omega) only [go_sem, simprocAttr])
  obtain ⟨w1, w2⟩ := dis_wrap i (by omega) (by omega)
  rw [w1, w2]
  exact hR.le (by simp (disch := omega) only [go_sem, simprocAttr]) ⟨rfl, rfl⟩
def PI (s : Bs) (o most : Nat) (F : SS) (h' : HP) (v : AV) : Prop :=
 ∃ a' hv' out', h' = stI s o most a' hv' out' ∧ v = .int .i64 (F.err : Nat) ∧ (F.err = 0 → out' = F.out ∧ RdOK s a' hv' (8 * o + F.p))
theorem pi_of {s : Bs} {o most : Nat} {F : SS} {h' : HP} {v : AV} (h : ∃ a' hv' S', h' = stI s o most a' hv' S'.out ∧ RdOK s a' hv' (8 * o + S'.p) ∧ S'.out.length ≤ most ∧ v = .int .i64 (F.err : Nat) ∧ (F.err = 0 → S' = F)) : PI s o most F h' v := by
 obtain ⟨a', hv', S', h1, h2, _, h4, h5⟩ := h
 exact ⟨a', hv', S'.out, h1, h4, fun he => by obtain rfl := h5 he; exact ⟨rfl, h2⟩⟩
theorem left_drop (s : Bs) (o p : Nat) : leftB s (8 * o + p) = 8 * (s.drop o).length - p := by unfold leftB; rw [List.length_drop]; omega
theorem drop_two (s : Bs) (q : Nat) (h : q + 2 ≤ s.length) : (s.drop q).take 2 = [s.getD q 0, s.getD (q + 1) 0] := by
 have h1 : q < s.length := by omega
 have h2 : q + 1 < s.length := by omega
 rw [List.drop_eq_getElem_cons h1, List.drop_eq_getElem_cons h2, List.getD_eq_getElem?_getD, List.getD_eq_getElem?_getD, List.getElem?_eq_getElem h1, List.getElem?_eq_getElem h2]
 rfl
theorem little_ok (x y : UInt8) : SpecR Tryd.prog 88 [.str [x, y]] (.int .u64 ((x.toNat + y.toNat * 2 ^ 8 : Nat) : Int)) := by
 refine Cod.fromlittle_spec (fun E R hN hR => ?_)
 have hx := x.toNat_lt
 have hy := y.toNat_lt
 simp (disch := omega) only [go_sem, simprocAttr]
 refine vcW_loop hN (fun i : Nat => ⟨[(0, .str [x, y]), (3, .int .u64 (if i = 0 then 0 else if i = 1 then x.toNat else x.toNat + y.toNat * 2 ^ 8 : Nat)), (7, .int .i64 2), (8, .int .i64 i)], []⟩) (fun i => i ≤ 2) (fun i => 2 - i) 0 (.le (by simp (disch := omega) only [go_sem, simprocAttr])) (by omega) ?_
 rintro i R1 hi hR1
 obtain rfl | rfl | rfl : i = 0 ∨ i = 1 ∨ i = 2 := by omega
 ·have e0 : bits .or .u64 0 (IntKind.u64.wrap ((x.toNat : Int) * 2 ^ min 0 64)) = ((x.toNat : Nat) : Int) := (or_fill (x := 0) (k := 0) (b := x.toNat) (by decide) (by decide) hx).trans (by rw [Nat.zero_add, Nat.pow_zero, Nat.mul_one])
  simp (disch := omega) only [go_sem, simprocAttr, e0]
  exact hR1 1 _ (by omega) (by omega) (.le (by simp (disch := omega) only [go_sem, simprocAttr]))
 ·have e1 : bits .or .u64 (x.toNat : Int) (IntKind.u64.wrap ((y.toNat : Int) * 2 ^ min 8 64)) = ((x.toNat + y.toNat * 2 ^ 8 : Nat) : Int) := or_fill (k := 8) hx (by decide) hy
  simp (disch := omega) only [go_sem, simprocAttr, e1]
  exact hR1 2 _ (by omega) (by omega) (.le (by simp (disch := omega) only [go_sem, simprocAttr]))
 ·simp (disch := omega) only [go_sem, simprocAttr]
  exact hR.le (by simp (disch := omega) only [go_sem, simprocAttr]) ⟨rfl, rfl⟩
end Go.Proofs.YtjoefngnjoofeaaDoor.Pk
namespace Go.Proofs.YtjoefngnjoofeaaDoor.Cod
open Eng Eng.Kz
set_option maxRecDepth 100000
abbrev crcw_2 : AK := .reg [m 33 0, m 34 4, .v 35 (.un .xor (.t 34)), .v 36 (.nilc (.t 33)), .v 37 (.fldA false 0 1 (.t 36)), .effN false 120000 (.st 1 (.t 37) (.t 35))] [2000000,2000001]
abbrev crcw_8 : AK := .reg [bi 32 .add 13 1, m 13 32] [0,1,4,12,13,2000000,2000001]
abbrev crcw_17 : AK := .reg [bi 31 .add 22 1, m 22 31] [0,1,4,12,13,22,2000000,2000001]
abbrev crcw_19 : AK := .reg [m 24 4, .v 25 (.bin .shr (.t 24) (.c (.int .u64 1))), m 26 4, .v 27 (.bin .and (.t 26) (.c (.int .u32 1))), .v 28 (.un .neg (.t 27)), .v 29 (.bin .and (.c (.int .u32 3988292384)) (.t 28)), b 30 .xor 25 29, m 4 30] [0,1,4,12,13,22,2000000,2000001]
abbrev crcw_16 : AK := .seq (.block 3 crcw_19) crcw_17
abbrev crcw_15 : AK := .seq (.cond (.t 23) .skip (.exit 2)) crcw_16
abbrev crcw_14 : AK := .seq (.reg [bi 23 .lss 22 8] [0,1,4,12,13,22,23,2000000,2000001]) crcw_15
abbrev crcw_L1 : AK := .loop crcw_14
abbrev crcw_12 : AK := .seq (.reg [k 22 (ci 0)] [0,1,4,12,13,22,2000000,2000001]) (.block 2 crcw_L1)
abbrev crcw_11 : AK := .seq (.reg [m 16 4, m 17 1, m 18 5, .v 19 (.sidx (.t 17) (.t 18)), .v 20 (.cvi .u32 (.t 19)), b 21 .xor 16 20, m 4 21] [0,1,4,12,13,2000000,2000001]) crcw_12
abbrev crcw_10 : AK := .seq (.reg [m 15 13, m 5 15] [0,1,4,5,12,13,2000000,2000001]) crcw_11
abbrev crcw_7 : AK := .seq (.block 1 crcw_10) crcw_8
abbrev crcw_6 : AK := .seq (.cond (.t 14) .skip (.exit 0)) crcw_7
abbrev crcw_5 : AK := .seq (.reg [b 14 .lss 13 12] [0,1,4,12,13,14,2000000,2000001]) crcw_6
abbrev crcw_L0 : AK := .loop crcw_5
abbrev crcw_3 : AK := .seq (.reg [m 11 1, .v 12 (.len true (.t 11)), k 13 (ci 0)] [0,1,4,12,13,2000000,2000001]) (.block 0 crcw_L0)
abbrev crcw_1 : AK := .seq crcw_3 crcw_2
abbrev crcw_0 : AK := .seq (.reg [m 6 0, .v 7 (.nilc (.t 6)), .v 8 (.fldA false 0 1 (.t 7)), .v 9 (.ld false 1 (.t 8)), .v 10 (.un .xor (.t 9)), m 4 10] [0,1,4,2000000,2000001]) crcw_1
abbrev crcw : AK := crcw_0
theorem crcw_fn : FnOK Tryd.prog 46 120000 2 crcw [] := ⟨_, Tryd.func46, by kernel_rfl⟩
theorem crcw_spec {h : HP} {a0 a1 : AV} {Post : HP → AV → List AV → Prop} (hp : HpN Tryd.prog crcw [] 2 [(0, a0), (1, a1), (2000000, a0), (2000001, a1)] h Post) : Eng.Spec Tryd.prog 46 h [a0, a1] Post := spec_fn crcw_fn rfl [(0, a0), (1, a1), (2000000, a0), (2000001, a1)] ⟨rfl, rfl, rfl, rfl, trivial⟩ hp
abbrev crcs_1 : AK := .seq (.reg [m 3 0, .v 4 (.nilc (.t 3)), .v 5 (.fldA false 0 1 (.t 4)), .v 6 (.ld false 1 (.t 5)), m 2 6] [2,2000000]) .ret
abbrev crcs_0 : AK := .seq (.reg [k 2 (.c (.int .u32 0))] [0,2000000]) crcs_1
abbrev crcs : AK := crcs_0
theorem crcs_fn : FnOK Tryd.prog 47 121000 1 crcs [.tmp 2] := ⟨_, Tryd.func47, by kernel_rfl⟩
theorem crcs_spec {h : HP} {a0 : AV} {Post : HP → AV → List AV → Prop} (hp : HpN Tryd.prog crcs [.tmp 2] 1 [(0, a0), (2000000, a0)] h Post) : Eng.Spec Tryd.prog 47 h [a0] Post := spec_fn crcs_fn rfl [(0, a0), (2000000, a0)] ⟨rfl, rfl, trivial⟩ hp
abbrev crc32_3 : AK := .seq (.reg [.cal (some 6) false 122006 47 [(.t 3)], m 2 6] [2]) .ret
abbrev crc32_2 : AK := .seq (.reg [m 4 0, .cal (some 5) false 122005 46 [(.t 3), (.t 4)]] [3]) crc32_3
abbrev crc32_1 : AK := .seq (.reg [.eff 3 false 122003 (.alloc [.int .u32 0])] [0,3]) crc32_2
abbrev crc32_0 : AK := .seq (.reg [k 2 (.c (.int .u32 0))] [0]) crc32_1
abbrev crc32 : AK := crc32_0
theorem crc32_fn : FnOK Tryd.prog 28 122000 1 crc32 [.tmp 2] := ⟨_, Tryd.func28, by kernel_rfl⟩
theorem crc32_spec {h : HP} {a0 : AV} {Post : HP → AV → List AV → Prop} (hp : HpN Tryd.prog crc32 [.tmp 2] 1 [(0, a0)] h Post) : Eng.Spec Tryd.prog 28 h [a0] Post := spec_fn crc32_fn rfl [(0, a0)] ⟨rfl, trivial⟩ hp
abbrev adlw_5 : AK := .reg [bi 37 .add 7 1, m 7 37] [0,1,6,7,2000000,2000001]
abbrev adlw_9 : AK := .reg [u 123023 23 (.mov (.t 0)), u 123024 24 (.mov (.t 0)), u 123025 25 (.nilc (.t 24)), u 123026 26 (.fldA false 1 1 (.t 25)), u 123027 27 (.ld false 1 (.t 26)), u 123028 28 (.mov (.t 0)), u 123029 29 (.nilc (.t 28)), u 123030 30 (.fldA false 0 1 (.t 29)), u 123031 31 (.ld false 1 (.t 30)), b 32 .add 27 31, .v 33 (.bin .add (.t 32) (.c (.int .u32 1))), .v 34 (.bin .rem (.t 33) (.c (.int .u32 65521))), .v 35 (.nilc (.t 23)), .v 36 (.fldA false 1 1 (.t 35)), .effN false 123000 (.st 1 (.t 36) (.t 34))] [0,1,6,7,2000000,2000001]
abbrev adlw_8 : AK := .seq (.reg [u 123010 10 (.mov (.t 0)), u 123011 11 (.mov (.t 0)), u 123012 12 (.nilc (.t 11)), u 123013 13 (.fldA false 0 1 (.t 12)), u 123014 14 (.ld false 1 (.t 13)), u 123015 15 (.mov (.t 1)), u 123016 16 (.mov (.t 4)), u 123017 17 (.sidx (.t 15) (.t 16)), u 123018 18 (.cvi .u32 (.t 17)), b 19 .add 14 18, .v 20 (.bin .rem (.t 19) (.c (.int .u32 65521))), .v 21 (.nilc (.t 10)), .v 22 (.fldA false 0 1 (.t 21)), .effN false 123000 (.st 1 (.t 22) (.t 20))] [0,1,6,7,2000000,2000001]) adlw_9
abbrev adlw_7 : AK := .seq (.reg [m 9 7, m 4 9] [0,1,4,6,7,2000000,2000001]) adlw_8
abbrev adlw_4 : AK := .seq (.block 1 adlw_7) adlw_5
abbrev adlw_3 : AK := .seq (.cond (.t 8) .skip (.exit 0)) adlw_4
abbrev adlw_2 : AK := .seq (.reg [b 8 .lss 7 6] [0,1,6,7,8,2000000,2000001]) adlw_3
abbrev adlw_L0 : AK := .loop adlw_2
abbrev adlw_0 : AK := .seq (.reg [m 5 1, .v 6 (.len true (.t 5)), k 7 (ci 0)] [0,1,6,7,2000000,2000001]) (.block 0 adlw_L0)
abbrev adlw : AK := adlw_0
theorem adlw_fn : FnOK Tryd.prog 69 123000 2 adlw [] := ⟨_, Tryd.func69, by kernel_rfl⟩
theorem adlw_spec {h : HP} {a0 a1 : AV} {Post : HP → AV → List AV → Prop} (hp : HpN Tryd.prog adlw [] 2 [(0, a0), (1, a1), (2000000, a0), (2000001, a1)] h Post) : Eng.Spec Tryd.prog 69 h [a0, a1] Post := spec_fn adlw_fn rfl [(0, a0), (1, a1), (2000000, a0), (2000001, a1)] ⟨rfl, rfl, rfl, rfl, trivial⟩ hp
abbrev adls_1 : AK := .seq (.reg [u 124003 3 (.mov (.t 0)), u 124004 4 (.nilc (.t 3)), u 124005 5 (.fldA false 1 1 (.t 4)), u 124006 6 (.ld false 1 (.t 5)), u 124007 7 (.bin .shl (.t 6) (.c (.int .u64 16))), u 124008 8 (.mov (.t 0)), u 124009 9 (.nilc (.t 8)), u 124010 10 (.fldA false 0 1 (.t 9)), u 124011 11 (.ld false 1 (.t 10)), u 124012 12 (.bin .add (.t 11) (.c (.int .u32 1))), u 124013 13 (.bin .rem (.t 12) (.c (.int .u32 65521))), b 14 .or 7 13, m 2 14] [2,2000000]) .ret
abbrev adls_0 : AK := .seq (.reg [k 2 (.c (.int .u32 0))] [0,2000000]) adls_1
abbrev adls : AK := adls_0
theorem adls_fn : FnOK Tryd.prog 70 124000 1 adls [.tmp 2] := ⟨_, Tryd.func70, by kernel_rfl⟩
theorem adls_spec {h : HP} {a0 : AV} {Post : HP → AV → List AV → Prop} (hp : HpN Tryd.prog adls [.tmp 2] 1 [(0, a0), (2000000, a0)] h Post) : Eng.Spec Tryd.prog 70 h [a0] Post := spec_fn adls_fn rfl [(0, a0), (2000000, a0)] ⟨rfl, rfl, trivial⟩ hp
abbrev adler_3 : AK := .seq (.reg [.cal (some 6) false 125006 70 [(.t 3)], m 2 6] [2]) .ret
abbrev adler_2 : AK := .seq (.reg [m 4 0, .cal (some 5) false 125005 69 [(.t 3), (.t 4)]] [3]) adler_3
abbrev adler_1 : AK := .seq (.reg [.eff 3 false 125003 (.alloc [.int .u32 0, .int .u32 0])] [0,3]) adler_2
abbrev adler_0 : AK := .seq (.reg [k 2 (.c (.int .u32 0))] [0]) adler_1
abbrev adler : AK := adler_0
theorem adler_fn : FnOK Tryd.prog 45 125000 1 adler [.tmp 2] := ⟨_, Tryd.func45, by kernel_rfl⟩
theorem adler_spec {h : HP} {a0 : AV} {Post : HP → AV → List AV → Prop} (hp : HpN Tryd.prog adler [.tmp 2] 1 [(0, a0)] h Post) : Eng.Spec Tryd.prog 45 h [a0] Post := spec_fn adler_fn rfl [(0, a0)] ⟨rfl, trivial⟩ hp
abbrev frombig_3 : AK := .seq (.reg [m 18 3, m 2 18] [2]) .ret
abbrev frombig_9 : AK := .reg [bi 17 .add 7 1, m 7 17] [0,3,6,7]
abbrev frombig_12 : AK := .reg [m 10 3, .v 11 (.bin .shl (.t 10) (.c (.int .u64 8))), m 12 0, m 13 4, .v 14 (.sidx (.t 12) (.t 13)), .v 15 (.cvi .u64 (.t 14)), b 16 .or 11 15, m 3 16] [0,3,6,7]
abbrev frombig_11 : AK := .seq (.reg [m 9 7, m 4 9] [0,3,4,6,7]) frombig_12
abbrev frombig_8 : AK := .seq (.block 1 frombig_11) frombig_9
abbrev frombig_7 : AK := .seq (.cond (.t 8) .skip (.exit 0)) frombig_8
abbrev frombig_6 : AK := .seq (.reg [b 8 .lss 7 6] [0,3,6,7,8]) frombig_7
abbrev frombig_L0 : AK := .loop frombig_6
abbrev frombig_4 : AK := .seq (.reg [m 5 0, .v 6 (.len true (.t 5)), k 7 (ci 0)] [0,3,6,7]) (.block 0 frombig_L0)
abbrev frombig_2 : AK := .seq frombig_4 frombig_3
abbrev frombig_1 : AK := .seq (.reg [k 3 (.c (.int .u64 0))] [0,3]) frombig_2
abbrev frombig_0 : AK := .seq (.reg [k 2 (.c (.int .u64 0))] [0]) frombig_1
abbrev frombig : AK := frombig_0
theorem frombig_fn : FnOK Tryd.prog 31 126000 1 frombig [.tmp 2] := ⟨_, Tryd.func31, by kernel_rfl⟩
theorem frombig_spec {h : HP} {a0 : AV} {Post : HP → AV → List AV → Prop} (hp : HpN Tryd.prog frombig [.tmp 2] 1 [(0, a0)] h Post) : Eng.Spec Tryd.prog 31 h [a0] Post := spec_fn frombig_fn rfl [(0, a0)] ⟨rfl, trivial⟩ hp
abbrev big_3 : AK := .seq (.reg [m 31 5, .v 32 (.bts (.t 31)), m 4 32] [4]) .ret
abbrev big_9 : AK := .reg [bi 30 .add 9 1, m 9 30] [0,1,5,8,9]
abbrev big_13 : AK := .reg [m 19 5, m 20 0, m 21 1, bi 22 .sub 21 1, m 23 6, b 24 .sub 22 23, .v 25 (.bin .mul (ci 8) (.t 24)), b 26 .shr 20 25, .v 27 (.cvi .u8 (.t 26)), .eff 28 false 127028 (.bsl 1 [(.t 27)]), .eff 29 false 127029 (.app 1 1 (.t 19) (.t 28)), m 5 29] [0,1,5,8,9]
abbrev big_16 : AK := .seq (.reg [m 16 5, .eff 17 false 127017 (.bsl 1 [(.c (.int .u8 0))]), .eff 18 false 127018 (.app 1 1 (.t 16) (.t 17)), m 5 18] [0,1,5,8,9]) (.exit 1)
abbrev big_14 : AK := .seq (.reg [m 12 1, m 13 6, b 14 .sub 12 13, bi 15 .gtr 14 8] [0,1,5,6,8,9,15]) (.cond (.t 15) big_16 .skip)
abbrev big_12 : AK := .seq big_14 big_13
abbrev big_11 : AK := .seq (.reg [m 11 9, m 6 11] [0,1,5,6,8,9]) big_12
abbrev big_8 : AK := .seq (.block 1 big_11) big_9
abbrev big_7 : AK := .seq (.cond (.t 10) .skip (.exit 0)) big_8
abbrev big_6 : AK := .seq (.reg [b 10 .lss 9 8] [0,1,5,8,9,10]) big_7
abbrev big_L0 : AK := .loop big_6
abbrev big_4 : AK := .seq (.reg [m 7 1, .v 8 (.mm true (.t 7) (ci 0)), k 9 (ci 0)] [0,1,5,8,9]) (.block 0 big_L0)
abbrev big_2 : AK := .seq big_4 big_3
abbrev big_1 : AK := .seq (.reg [k 5 (.c (.nilsl))] [0,1,5]) big_2
abbrev big_0 : AK := .seq (.reg [k 4 (.c (.str []))] [0,1]) big_1
abbrev big : AK := big_0
theorem big_fn : FnOK Tryd.prog 14 127000 2 big [.tmp 4] := ⟨_, Tryd.func14, by kernel_rfl⟩
theorem big_spec {h : HP} {a0 a1 : AV} {Post : HP → AV → List AV → Prop} (hp : HpN Tryd.prog big [.tmp 4] 2 [(0, a0), (1, a1)] h Post) : Eng.Spec Tryd.prog 14 h [a0, a1] Post := spec_fn big_fn rfl [(0, a0), (1, a1)] ⟨rfl, rfl, trivial⟩ hp
abbrev zhead_1 : AK := .seq (.reg [m 5 0, .v 6 (.bin .and (.t 5) (.c (.int .u8 15))), .v 7 (.bin .eql (.t 6) (.c (.int .u8 8))), m 8 7, .gval 9 8 true false 134009 (.mov (.t 0)), .gval 10 8 true false 134010 (.bin .shr (.t 9) (.c (.int .u64 4))), .gval 11 8 true false 134011 (.bin .leq (.t 10) (.c (.int .u8 7))), .v 12 (.pick (.t 8) (.t 11) (.c (.bool false))), m 13 12, .gval 14 13 true false 134014 (.mov (.t 0)), .gval 15 13 true false 134015 (.cvi .i64 (.t 14)), .gval 16 13 true false 134016 (.bin .shl (.t 15) (.c (.int .u64 8))), .gval 17 13 true false 134017 (.mov (.t 1)), .gval 18 13 true false 134018 (.cvi .i64 (.t 17)), .gval 19 13 true false 134019 (.bin .or (.t 16) (.t 18)), .gval 20 13 true false 134020 (.bin .rem (.t 19) (ci 31)), .gval 21 13 true false 134021 (.bin .eql (.t 20) (ci 0)), .v 22 (.pick (.t 13) (.t 21) (.c (.bool false))), m 23 22, .gval 24 23 true false 134024 (.mov (.t 1)), .gval 25 23 true false 134025 (.bin .and (.t 24) (.c (.int .u8 32))), .gval 26 23 true false 134026 (.bin .eql (.t 25) (.c (.int .u8 0))), .v 27 (.pick (.t 23) (.t 26) (.c (.bool false))), m 4 27] [4]) .ret
abbrev zhead_0 : AK := .seq (.reg [k 4 (.c (.bool false))] [0,1]) zhead_1
abbrev zhead : AK := zhead_0
theorem zhead_fn : FnOK Tryd.prog 43 134000 2 zhead [.tmp 4] := ⟨_, Tryd.func43, by kernel_rfl⟩
theorem zhead_spec {h : HP} {a0 a1 : AV} {Post : HP → AV → List AV → Prop} (hp : HpN Tryd.prog zhead [.tmp 4] 2 [(0, a0), (1, a1)] h Post) : Eng.Spec Tryd.prog 43 h [a0, a1] Post := spec_fn zhead_fn rfl [(0, a0), (1, a1)] ⟨rfl, rfl, trivial⟩ hp
abbrev zread_9 : AK := .seq (.reg [m 74 9, m 75 10, bi 76 .add 75 6, m 6 74, m 7 76, k 8 (ci 0)] [6,7,8]) .ret
abbrev zread_12 : AK := .seq (.reg [k 6 (.c (.str [])), k 7 (ci 0), k 8 (ci 5)] [6,7,8]) .ret
abbrev zread_10 : AK := .seq (.reg [m 64 0, m 65 12, m 66 12, bi 67 .add 66 4, .v 68 (.slcS (.t 64) (some (.t 65)) (some (.t 67))), .cal (some 69) false 135069 31 [(.t 68)], .v 70 (.cvi .u32 (.t 69)), m 71 9, .cal (some 72) false 135072 45 [(.t 71)], b 73 .neq 70 72] [9,10,73]) (.cond (.t 73) zread_12 .skip)
abbrev zread_8 : AK := .seq zread_10 zread_9
abbrev zread_15 : AK := .seq (.reg [k 6 (.c (.str [])), k 7 (ci 0), k 8 (ci 6)] [6,7,8]) .ret
abbrev zread_13 : AK := .seq (.reg [m 59 0, .v 60 (.len true (.t 59)), m 61 12, b 62 .sub 60 61, bi 63 .lss 62 4] [0,9,10,12,63]) (.cond (.t 63) zread_15 .skip)
abbrev zread_7 : AK := .seq zread_13 zread_8
abbrev zread_6 : AK := .seq (.reg [m 55 1, bi 56 .add 55 2, m 57 10, b 58 .add 56 57, m 12 58] [0,9,10,12]) zread_7
abbrev zread_18 : AK := .seq (.reg [m 54 11, k 6 (.c (.str [])), k 7 (ci 0), m 8 54] [6,7,8]) .ret
abbrev zread_16 : AK := .seq (.reg [m 52 11, bi 53 .neq 52 0] [0,1,9,10,11,53]) (.cond (.t 53) zread_18 .skip)
abbrev zread_5 : AK := .seq zread_16 zread_6
abbrev zread_4 : AK := .seq (.reg [m 44 0, m 45 1, bi 46 .add 45 2, m 47 2, .cal (some 48) false 135048 44 [(.t 44), (.t 46), (.t 47)], m 43 48, .v 49 (.ext (.t 43) 0), .v 50 (.ext (.t 43) 1), .v 51 (.ext (.t 43) 2), m 9 49, m 10 50, m 11 51] [0,1,9,10,11]) zread_5
abbrev zread_21 : AK := .seq (.reg [k 6 (.c (.str [])), k 7 (ci 0), k 8 (ci 3)] [6,7,8]) .ret
abbrev zread_19 : AK := .seq (.reg [u 135034 34 (.mov (.t 0)), u 135035 35 (.mov (.t 1)), u 135036 36 (.sidx (.t 34) (.t 35)), u 135037 37 (.mov (.t 0)), u 135038 38 (.mov (.t 1)), u 135039 39 (.bin .add (.t 38) (ci 1)), u 135040 40 (.sidx (.t 37) (.t 39)), .cal (some 41) false 135041 43 [(.t 36), (.t 40)], .v 42 (.un .not (.t 41))] [0,1,2,42]) (.cond (.t 42) zread_21 .skip)
abbrev zread_3 : AK := .seq zread_19 zread_4
abbrev zread_24 : AK := .seq (.reg [k 6 (.c (.str [])), k 7 (ci 0), k 8 (ci 6)] [6,7,8]) .ret
abbrev zread_22 : AK := .seq (.reg [m 29 0, .v 30 (.len true (.t 29)), m 31 1, b 32 .sub 30 31, bi 33 .lss 32 2] [0,1,2,33]) (.cond (.t 33) zread_24 .skip)
abbrev zread_2 : AK := .seq zread_22 zread_3
abbrev zread_27 : AK := .seq (.reg [k 6 (.c (.str [])), k 7 (ci 0), k 8 (ci 1)] [6,7,8]) .ret
abbrev zread_25 : AK := .seq (.reg [m 13 1, bi 14 .lss 13 0, m 15 14, .gval 16 15 false false 135016 (.mov (.t 1)), .gval 17 15 false false 135017 (.mov (.t 0)), .gval 18 15 false false 135018 (.len true (.t 17)), .gval 19 15 false false 135019 (.bin .gtr (.t 16) (.t 18)), .v 20 (.pick (.t 15) (.c (.bool true)) (.t 19)), m 21 20, .gval 22 21 false false 135022 (.mov (.t 2)), .gval 23 21 false false 135023 (.bin .lss (.t 22) (ci 0)), .v 24 (.pick (.t 21) (.c (.bool true)) (.t 23)), m 25 24, .gval 26 25 false false 135026 (.mov (.t 2)), .gval 27 25 false false 135027 (.bin .gtr (.t 26) (ci 65536)), .v 28 (.pick (.t 25) (.c (.bool true)) (.t 27))] [0,1,2,28]) (.cond (.t 28) zread_27 .skip)
abbrev zread_1 : AK := .seq zread_25 zread_2
abbrev zread_0 : AK := .seq (.reg [k 6 (.c (.str [])), k 7 (ci 0), k 8 (ci 0)] [0,1,2]) zread_1
abbrev zread : AK := zread_0
theorem zread_fn : FnOK Tryd.prog 27 135000 3 zread [.tmp 6, .tmp 7, .tmp 8] := ⟨_, Tryd.func27, by kernel_rfl⟩
theorem zread_spec {h : HP} {a0 a1 a2 : AV} {Post : HP → AV → List AV → Prop} (hp : HpN Tryd.prog zread [.tmp 6, .tmp 7, .tmp 8] 3 [(0, a0), (1, a1), (2, a2)] h Post) : Eng.Spec Tryd.prog 27 h [a0, a1, a2] Post := spec_fn zread_fn rfl [(0, a0), (1, a1), (2, a2)] ⟨rfl, rfl, rfl, trivial⟩ hp
end Go.Proofs.YtjoefngnjoofeaaDoor.Cod
