/- The proof, part 22 of 24. -/
import Derived.Test.YtjoefngnjoofeaaDoorPackOneR
import Derived.Test.YtjoefngnjoofeaaDoorPackOneT
import Derived.Test.YtjoefngnjoofeaaDoorPackOneU
set_option linter.all false
namespace Go.Proofs.YtjoefngnjoofeaaDoor.Pk
open Eng
set_option maxRecDepth 10000
def zlibT (t s : Bs) : Bs := [120, 1] ++ t ++ (litB (adlV s) 4).reverse
theorem zwrite_ok (s : Bs) (hs : s.length ≤ 65535) : Eng.Spec Tryd.prog 17 [] [.str s] (fun h r _ => h = [] ∧ ∃ t, DeflP s t ∧ r = .str (zlibT t s)) := by
 refine Cod.zwrite_spec (fun E R hN hR => ?_)
 have hadl := adlV_lt s
 simp (disch := omega) only [go_sem, simprocAttr]
 refine call_ro' (ideflate_ok s hs) rfl ?_
 rintro h' v ar ⟨rfl, t, ht, rfl⟩
 refine ⟨rfl, rfl, ?_⟩
 have htl := defl_len ht
 have hfr : SpecR Tryd.prog 33 [.str t, .str s] (.str (zlibT t s)) := by
  refine Cod.zframe_spec (fun E R hN hR => ?_)
  have ha := adler_ok s (by omega)
  have hb := big_ok (adlV s) 4 (by omega) (by decide)
  have hll := litB_len (adlV s) 4
  unfold zlibT at hR
  rw [show ((4 : Nat) : Int) = 4 from rfl] at hb
  simp (disch := omega) only [go_sem, simprocAttr]
  refine call_ro ha rfl rfl ?_
  simp (disch := omega) only [go_sem, simprocAttr]
  refine call_ro hb rfl rfl ?_
  simp (disch := omega) only [go_sem, simprocAttr, List.length_reverse, hll]
  exact hR.ro ⟨rfl, by simp⟩
 simp (disch := omega) only [go_sem, simprocAttr]
 refine call_ro hfr rfl rfl ?_
 simp (disch := omega) only [go_sem, simprocAttr]
 exact hR.ro ⟨rfl, t, ht, rfl⟩
def hdB : Nat → Nat → Nat → Bs
 | 0, c, _ => [UInt8.ofNat c]
 | f + 1, c, m => if m = 0 then [UInt8.ofNat c] else UInt8.ofNat (c + 128) :: hdB f (m % 128) (m / 128)
def hedB (kind n : Nat) : Bs := hdB 9 (16 * kind + n % 16) (n / 16)
theorem hdB_more : ∀ (f c m : Nat), m < 128 ^ f → hdB (f + 1) c m = hdB f c m
 | 0, c, m, h => by
  have : m = 0 := by simpa using h
  simp [hdB, this]
 | f + 1, c, m, h => by
  have := hdB_more f (m % 128) (m / 128) (by rw [Nat.pow_succ] at h; omega)
  rw [hdB, this]
  rfl
theorem or_128 : ∀ x : Nat, x < 128 → bits .or .u8 (x : Int) 128 = ((x + 128 : Nat) : Int) := by decide +kernel
theorem or_128b : ∀ x : Nat, x < 256 → bits .or .u8 (x : Int) 128 = ((x % 128 + 128 : Nat) : Int) := by decide +kernel
theorem and_127 (n : Nat) (h : n < 9223372036854775808) : bits .and .i64 (n : Int) 127 = ((n % 128 : Nat) : Int) := by
 show IntKind.i64.wrap ((BitVec.ofInt 64 (n : Int) &&& BitVec.ofInt 64 ((127 : Nat) : Int)).toNat : Int) = _
 rw [BitVec.ofInt_natCast, BitVec.ofInt_natCast, BitVec.toNat_and, BitVec.toNat_ofNat, BitVec.toNat_ofNat, Nat.mod_eq_of_lt (by omega), Nat.mod_eq_of_lt (by omega), show (127 : Nat) = 2 ^ 7 - 1 by decide, Nat.and_two_pow_sub_one_eq_mod]
 exact IntWalk.i64_in _ (by omega)
theorem and_15 (n : Nat) (h : n < 9223372036854775808) : bits .and .i64 (n : Int) 15 = ((n % 16 : Nat) : Int) := by
 show IntKind.i64.wrap ((BitVec.ofInt 64 (n : Int) &&& BitVec.ofInt 64 ((15 : Nat) : Int)).toNat : Int) = _
 rw [BitVec.ofInt_natCast, BitVec.ofInt_natCast, BitVec.toNat_and, BitVec.toNat_ofNat, BitVec.toNat_ofNat, Nat.mod_eq_of_lt (by omega), Nat.mod_eq_of_lt (by omega), show (15 : Nat) = 2 ^ 4 - 1 by decide, Nat.and_two_pow_sub_one_eq_mod]
 exact IntWalk.i64_in _ (by omega)
theorem shrI (x k : Nat) (hk : k ≤ 63) : ((x : Nat) : Int).fdiv (2 ^ min k 64) = ((x / 2 ^ k : Nat) : Int) := by
 rw [Nat.min_eq_left (by omega), show (2 : Int) ^ k = ((2 ^ k : Nat) : Int) by push_cast; rfl, Int.fdiv_eq_ediv_of_nonneg _ (Int.natCast_nonneg _)]
 rfl
theorem kind_or : ∀ k : Nat, k < 8 → ∀ n : Nat, n < 16 → IntKind.u8.wrap (bits .or .i64 (IntKind.i64.wrap ((k : Int) * 2 ^ min 4 64)) (n : Int)) = ((16 * k + n : Nat) : Int) := by decide +kernel
theorem headof_ok (kind n : Nat) (hk : kind < 8) (hn : n < 1000000000) : SpecR Tryd.prog 16 [.int .i64 kind, .int .i64 n] (.ro 1 ((hedB kind n).map ub)) := by
 refine Cod.headof_spec (fun E R hN hR => ?_)
 have h15 := and_15 n (by omega)
 have hko := kind_or kind hk (n % 16) (by omega)
 have hs4 := shrI n 4 (by omega)
 simp (disch := first | omega | (simp only [Lx]; omega)) only [go_sem, simprocAttr, h15]
 simp (disch := first | omega | (simp only [Lx]; omega)) only [go_sem, simprocAttr, hko, hs4]
 refine vcW_loop hN (fun q : Bs × UInt8 × Nat => ⟨[(1, .int .i64 q.2.2), (5, .sl 175012 0 (q.1.length + 1))], [(175012, .arr 1 ((q.1 ++ [q.2.1]).map ub))]⟩) (fun q => q.2.1.toNat < 128 ∧ q.2.2 < 1000000000 ∧ q.1.length + q.2.2 ≤ 1000000100 ∧ hedB kind n = q.1 ++ hdB 9 q.2.1.toNat q.2.2) (fun q => q.2.2) ([], UInt8.ofNat (16 * kind + n % 16), n / 2 ^ 4) (.le ?_) ⟨?_, by simp only; omega, by simp only [List.length_nil]; omega, ?_⟩ ?_
 ·have e : ((UInt8.ofNat (16 * kind + n % 16)).toNat : Int) = ((16 * kind + n % 16 : Nat) : Int) := by rw [UInt8.toNat_ofNat']; congr 1; omega
  simp (disch := first | omega | (simp only [Lx]; omega)) only [go_sem, simprocAttr, List.length_nil, List.map_nil, List.nil_append, List.map_cons, e]
 ·rw [UInt8.toNat_ofNat']; omega
 ·simp only [List.nil_append]
  rw [UInt8.toNat_ofNat', Nat.mod_eq_of_lt (by omega)]
  rfl
 rintro ⟨pre, c, m⟩ R1 ⟨hc, hm, hpl, hb⟩ hR1
 simp only at hc hm hb hpl
 have hall : ∀ l : Bs, sub3 (l.map ub) 0 l.length = l.map ub := fun l => by simp [sub3, List.take_of_length_le]
 have hp1 := hall (pre ++ [c])
 rw [List.length_append, List.length_singleton] at hp1
 by_cases h0 : m = 0
 ·subst h0
  have e : hdB 9 c.toNat 0 = [c] := by show [UInt8.ofNat c.toNat] = _; rw [UInt8.ofNat_toNat]
  rw [e] at hb
  rw [hb] at hR
  simp (disch := first | omega | (simp only [Lx]; omega)) only [go_sem, simprocAttr]
  exact hR.wk (h' := []) (r' := .ro 1 ((pre ++ [c]).map ub)) (ar' := [.undef, .undef]) rfl (.frz 175012 (.le (by simp (disch := first | omega | (simp only [Lx]; omega)) only [go_sem, simprocAttr, hp1]))) ⟨rfl, rfl⟩
 ·have h127 := and_127 m (by omega)
  have h128 := or_128 c.toNat hc
  have hs7 := shrI m 7 (by omega)
  have hg : (pre ++ [c]).getD pre.length 0 = c := by simp [List.getD_eq_getElem?_getD]
  have hst : ((pre ++ [c]).map ub).set pre.length (.int .u8 ((c.toNat + 128 : Nat) : Int)) = (pre ++ [UInt8.ofNat (c.toNat + 128)]).map ub := by
   have e : ((UInt8.ofNat (c.toNat + 128)).toNat : Int) = ((c.toNat + 128 : Nat) : Int) := by rw [UInt8.toNat_ofNat']; congr 1; omega
   simp [ub]
   omega
  have ei : ((pre.length : Int) + 1 - 1).toNat = pre.length := by omega
  have hmore := hdB_more 8 (m % 128) (m / 128) (by omega)
  have hstep : hdB 9 c.toNat m = UInt8.ofNat (c.toNat + 128) :: hdB 9 (m % 128) (m / 128) := by
   rw [hmore, hdB, if_neg h0]
  rw [hstep] at hb
  have hp2 := hall (pre ++ [UInt8.ofNat (c.toNat + 128)])
  rw [List.length_append, List.length_singleton] at hp2
  have em : ((m % 128 : Nat) : Int) = ((UInt8.ofNat (m % 128)).toNat : Int) := by rw [UInt8.toNat_ofNat']; congr 1; omega
  simp (disch := first | omega | (simp only [Lx]; omega)) only [go_sem, simprocAttr, ei, hg, h128, hst, hp2, h127, hs7, em]
  rw [show ((c.toNat : Int) + 128).toNat = c.toNat + 128 by omega, UInt8.ofNat_toNat]
  refine hR1 (pre ++ [UInt8.ofNat (c.toNat + 128)], UInt8.ofNat (m % 128), m / 128) _ (by simp only; omega) ⟨?_, by simp only; omega, by simp only [List.length_append, List.length_singleton]; omega, ?_⟩ (.le (by simp (disch := first | omega | (simp only [Lx]; omega)) only [go_sem, simprocAttr]))
  ·simp only [UInt8.toNat_ofNat']; omega
  ·simp only
   rw [hb, UInt8.toNat_ofNat', Nat.mod_eq_of_lt (show m % 128 < 2 ^ 8 by omega)]
   simp
end Go.Proofs.YtjoefngnjoofeaaDoor.Pk
namespace Go.Proofs.YtjoefngnjoofeaaDoor.Pk
open Eng
set_option maxRecDepth 10000
theorem sub_all (l : Bs) : sub3 (l.map ub) 0 l.length = l.map ub := by simp [sub3, List.take_of_length_le]
theorem ub_of (n : Nat) (h : n < 256) : AV.int .u8 (n : Int) = ub (UInt8.ofNat n) := by
 unfold ub
 rw [UInt8.toNat_ofNat', Nat.mod_eq_of_lt (show n < 2 ^ 8 by omega)]
def bkB : Nat → Bs → Nat → Bs
 | 0, acc, _ => acc
 | f + 1, acc, m => if m = 0 then acc else bkB f (UInt8.ofNat ((m - 1) % 128 + 128) :: acc) ((m - 1) / 128)
def bakB (n : Nat) : Bs := bkB 9 [UInt8.ofNat (n % 128)] (n / 128)
theorem bkB_more : ∀ (f : Nat) (acc : Bs) (m : Nat), m < 128 ^ f → bkB (f + 1) acc m = bkB f acc m
 | 0, acc, m, h => by
  have : m = 0 := by simpa using h
  simp [bkB, this]
 | f + 1, acc, m, h => by
  rw [bkB]
  by_cases h0 : m = 0
  ·simp [h0, bkB]
  ·rw [if_neg h0, bkB_more f _ ((m - 1) / 128) (by rw [Nat.pow_succ] at h; omega)]
   conv => rhs; rw [bkB, if_neg h0]
theorem backof_ok (n : Nat) (hn : n < 1000000000) : SpecR Tryd.prog 21 [.int .i64 n] (.ro 1 ((bakB n).map ub)) := by
 refine Cod.backof_spec (fun E R hN hR => ?_)
 have h127 := and_127 n (by omega)
 have hs7 := shrI n 7 (by omega)
 have hu := ub_of (n % 128) (by omega)
 simp (disch := omega) only [go_sem, simprocAttr, h127]
 simp (disch := omega) only [go_sem, simprocAttr, hs7]
 refine vcW_loop hN (fun q : Bs × Nat => ⟨[(0, .int .i64 q.2), (3, .sl 176900 0 q.1.length)], [(176900, .arr 1 (q.1.map ub))]⟩) (fun q => q.2 < 1000000000 ∧ q.1.length + q.2 ≤ 1000000100 ∧ bakB n = bkB 9 q.1 q.2) (fun q => q.2) ([UInt8.ofNat (n % 128)], n / 2 ^ 7) (.ren 176007 176900 rfl rfl (.le ?_)) ⟨by simp only; omega, by simp only [List.length_singleton]; omega, rfl⟩ ?_
 ·have e : ((UInt8.ofNat (n % 128)).toNat : Int) = ((n % 128 : Nat) : Int) := by rw [UInt8.toNat_ofNat']; congr 1; omega
  simp (disch := omega) only [go_sem, simprocAttr, e, List.map_cons, List.map_nil, List.length_cons]
 rintro ⟨acc, m⟩ R1 ⟨hm, hl, hb⟩ hR1
 simp only at hm hl hb
 have hsa := sub_all acc
 by_cases h0 : m = 0
 ·subst h0
  have e : bkB 9 acc 0 = acc := rfl
  rw [hb, e] at hR
  simp (disch := omega) only [go_sem, simprocAttr]
  exact hR.wk (h' := []) (r' := .ro 1 (acc.map ub)) (ar' := [.undef]) rfl (.frz 176900 (.le (by simp (disch := omega) only [go_sem, simprocAttr, hsa]))) ⟨rfl, rfl⟩
 ·have h127 := and_127 (m - 1) (by omega)
  have h128 := or_128 ((m - 1) % 128) (by omega)
  have hs7 := shrI (m - 1) 7 (by omega)
  have hstep : bkB 9 acc m = bkB 9 (UInt8.ofNat ((m - 1) % 128 + 128) :: acc) ((m - 1) / 128) := by
   rw [bkB_more 8 _ ((m - 1) / 128) (by omega), bkB, if_neg h0]
  rw [hstep] at hb
  have em : ((m : Int) - 1) = ((m - 1 : Nat) : Int) := by omega
  have e : ((UInt8.ofNat ((m - 1) % 128 + 128)).toNat : Int) = (((m - 1) % 128 + 128 : Nat) : Int) := by rw [UInt8.toNat_ofNat']; congr 1; omega
  simp (disch := omega) only [go_sem, simprocAttr, em, h127, h128, hs7, hsa]
  exact hR1 (UInt8.ofNat ((m - 1) % 128 + 128) :: acc, (m - 1) / 128) _ (by simp only; omega) ⟨by simp only; omega, by simp only [List.length_cons]; omega, hb⟩ (.drop 176900 (.ren 176020 176900 rfl rfl (.le (by simp (disch := omega) only [go_sem, simprocAttr, e, List.map_cons, List.length_cons, show 1 + acc.length = acc.length + 1 by omega]))))
def sizB : Nat → Nat → Bs
 | 0, n => [UInt8.ofNat n]
 | f + 1, n => if 128 ≤ n then UInt8.ofNat (n % 128 + 128) :: sizB f (n / 128) else [UInt8.ofNat n]
theorem sizB_more : ∀ (f n : Nat), n < 128 ^ (f + 1) → sizB (f + 1) n = sizB f n
 | 0, n, h => by simp [sizB]; omega
 | f + 1, n, h => by
  rw [sizB]
  by_cases h0 : 128 ≤ n
  ·rw [if_pos h0, sizB_more f (n / 128) (by rw [Nat.pow_succ] at h; omega)]
   conv => rhs; rw [sizB, if_pos h0]
  ·rw [if_neg h0]
   conv => rhs; rw [sizB, if_neg h0]
theorem sizB_len : ∀ (f n : Nat), (sizB f n).length ≤ f + 1
 | 0, n => by simp [sizB]
 | f + 1, n => by
  have := sizB_len f (n / 128)
  rw [sizB]
  split <;> simp <;> omega
def sizT (n : Nat) : Bs := sizB 9 n
theorem dsized_ok (n : Nat) (hn : n < 1000000000) : Eng.Spec Tryd.prog 35 [] [.int .i64 n] (fun h r ar => h = [(171013, .arr 1 ((sizT n).map ub))] ∧ r = .sl 171013 0 (sizT n).length ∧ ar = [.undef]) := by
 refine Cod.dsized_spec (fun E R hN hR => ?_)
 simp (disch := omega) only [go_sem, simprocAttr]
 refine vcW_loop hN (fun q : Bs × Nat => ⟨[(0, .int .i64 q.2), (3, .sl 171013 0 q.1.length)], [(171013, .arr 1 (q.1.map ub))]⟩) (fun q => q.2 < 1000000000 ∧ q.1.length + q.2 ≤ 1000000100 ∧ sizT n = q.1 ++ sizB 9 q.2) (fun q => q.2) ([], n) (.nil 3 171013 1 rfl (.le (by simp (disch := omega) only [go_sem, simprocAttr, List.map_nil, List.length_nil]))) ⟨hn, by simp only [List.length_nil]; omega, rfl⟩ ?_
 rintro ⟨pre, m⟩ R1 ⟨hm, hl, hb⟩ hR1
 simp only at hm hl hb
 have hsa := sub_all pre
 by_cases h0 : 128 ≤ m
 ·have hw : IntKind.u8.wrap (m : Int) = ((m % 256 : Nat) : Int) := rfl
  have h128 := or_128b (m % 256) (by omega)
  rw [show m % 256 % 128 = m % 128 by omega] at h128
  have hs7 := shrI m 7 (by omega)
  have hstep : sizB 9 m = UInt8.ofNat (m % 128 + 128) :: sizB 9 (m / 128) := by
   rw [sizB_more 8 (m / 128) (by omega), sizB, if_pos h0]
  rw [hstep] at hb
  simp (disch := omega) only [go_sem, simprocAttr, hw, h128, hs7, hsa]
  rw [show (((m % 128 : Nat) : Int) + 128).toNat = m % 128 + 128 by omega]
  exact hR1 (pre ++ [UInt8.ofNat (m % 128 + 128)], m / 128) _ (by simp only; omega) ⟨by simp only; omega, by simp only [List.length_append, List.length_singleton]; omega, by rw [hb]; simp⟩ (.le (by simp (disch := omega) only [go_sem, simprocAttr]))
 ·have e : sizB 9 m = [UInt8.ofNat m] := by rw [sizB, if_neg h0]
  have hu := ub_of m (by omega)
  rw [hb, e, List.length_append, List.length_singleton] at hR
  simp (disch := omega) only [go_sem, simprocAttr, hsa]
  exact hR.le (by simp (disch := omega) only [go_sem, simprocAttr]) ⟨rfl, rfl, rfl⟩
def cpX (o n i : Nat) : Nat := if i < 4 then o / 2 ^ (8 * i) % 256 else n / 2 ^ (8 * (i - 4)) % 256
def cpOn (o n i : Nat) : Bool := decide (cpX o n i ≠ 0) && !(decide (i = 6) && decide (n = 65536))
def cpP (o n : Nat) : Nat → Nat × Bs
 | 0 => (128, [])
 | k + 1 => if cpOn o n k then ((cpP o n k).1 + 2 ^ k, (cpP o n k).2 ++ [UInt8.ofNat (cpX o n k)]) else cpP o n k
def cpT (o n : Nat) : Bs := UInt8.ofNat (cpP o n 7).1 :: (cpP o n 7).2
theorem cpP_lt (o n : Nat) : ∀ k, 128 ≤ (cpP o n k).1 ∧ (cpP o n k).1 < 128 + 2 ^ k ∧ (cpP o n k).2.length ≤ k
 | 0 => by simp [cpP]
 | k + 1 => by
  have := cpP_lt o n k
  rw [cpP, Nat.pow_succ]
  split
  ·simp only [List.length_append, List.length_singleton]; omega
  ·omega
theorem cp_or : ∀ k : Nat, k < 7 → ∀ q : Nat, q < 128 → q < 2 ^ k → bits .or .u8 ((128 + q : Nat) : Int) (IntKind.u8.wrap (1 * 2 ^ min k 8)) = ((128 + q + 2 ^ k : Nat) : Int) := by decide +kernel
theorem and_255 (n : Nat) (h : n < 9223372036854775808) : bits .and .i64 (n : Int) 255 = ((n % 256 : Nat) : Int) := by
 show IntKind.i64.wrap ((BitVec.ofInt 64 (n : Int) &&& BitVec.ofInt 64 ((255 : Nat) : Int)).toNat : Int) = _
 rw [BitVec.ofInt_natCast, BitVec.ofInt_natCast, BitVec.toNat_and, BitVec.toNat_ofNat, BitVec.toNat_ofNat, Nat.mod_eq_of_lt (by omega), Nat.mod_eq_of_lt (by omega), show (255 : Nat) = 2 ^ 8 - 1 by decide, Nat.and_two_pow_sub_one_eq_mod]
 exact IntWalk.i64_in _ (by omega)
theorem dcopy_ok (o n : Nat) (ho : o < 1000000000) (hn : n ≤ 65536) : SpecR Tryd.prog 37 [.int .i64 o, .int .i64 n] (.ro 1 ((cpT o n).map ub)) := by
 refine Cod.dcopy_spec (fun E R hN hR => ?_)
 simp (disch := omega) only [go_sem, simprocAttr]
 refine vcW_loop hN (fun k : Nat => ⟨[(0, .int .i64 o), (1, .int .i64 n), (5, .sl 172008 0 ((cpP o n k).2.length + 1)), (9, .int .i64 k)], [(172008, .arr 1 ((UInt8.ofNat (cpP o n k).1 :: (cpP o n k).2).map ub))]⟩) (fun k => k ≤ 7) (fun k => 7 - k) 0 (.le (by simp (disch := omega) only [go_sem, simprocAttr, cpP, List.length_nil, List.map_nil, List.map_cons, show (UInt8.ofNat 128).toNat = 128 from rfl])) (by omega) ?_
 rintro k R1 hk hR1
 obtain ⟨hp1, hp2, hp3⟩ := cpP_lt o n k
 have hsa := sub_all (UInt8.ofNat (cpP o n k).1 :: (cpP o n k).2)
 rw [List.length_cons] at hsa
 by_cases hlt : k < 7
 ·have hstep : cpP o n (k + 1) = if cpOn o n k then ((cpP o n k).1 + 2 ^ k, (cpP o n k).2 ++ [UInt8.ofNat (cpX o n k)]) else cpP o n k := rfl
  have hkp : 2 ^ k ≤ 2 ^ 6 := Nat.pow_le_pow_right (by decide) (by omega)
  have e1 : (8 * (k : Int)).toNat = 8 * k := by omega
  have hs1 := shrI o (8 * k) (by omega)
  have ha1 := and_255 (o / 2 ^ (8 * k)) (Nat.lt_of_le_of_lt (Nat.div_le_self _ _) (by omega))
  simp (disch := omega) only [go_sem, simprocAttr, e1]
  rw [hs1, ha1]
  refine vcW_cut hN (fun _ : Unit => ⟨[(0, .int .i64 o), (1, .int .i64 n), (5, .sl 172008 0 ((cpP o n k).2.length + 1)), (6, .int .i64 k), (7, .int .i64 (cpX o n k : Nat)), (9, .int .i64 k)], [(172008, .arr 1 ((UInt8.ofNat (cpP o n k).1 :: (cpP o n k).2).map ub))]⟩) (fun _ => True) (fun R2 hR2 => ?_) ?_
  ·by_cases h4 : k < 4
   ·have e : cpX o n k = o / 2 ^ (8 * k) % 256 := if_pos h4
    rw [e] at hR2
    simp (disch := omega) only [go_sem, simprocAttr]
    exact hR2 () _ trivial (.le (by simp (disch := omega) only [go_sem, simprocAttr]))
   ·have e : cpX o n k = n / 2 ^ (8 * (k - 4)) % 256 := if_neg h4
    rw [e] at hR2
    have e2 : (8 * ((k : Int) - 4)).toNat = 8 * (k - 4) := by omega
    have hs2 := shrI n (8 * (k - 4)) (by omega)
    have ha2 := and_255 (n / 2 ^ (8 * (k - 4))) (Nat.lt_of_le_of_lt (Nat.div_le_self _ _) (by omega))
    simp (disch := omega) only [go_sem, simprocAttr, e2]
    rw [hs2, ha2]
    exact hR2 () _ trivial (.le (by simp (disch := omega) only [go_sem, simprocAttr]))
  ·rintro _ _
   have hx256 : cpX o n k < 256 := by unfold cpX; split <;> exact Nat.mod_lt _ (by decide)
   have hon : cpOn o n k = (decide (cpX o n k ≠ 0) && !(decide (k = 6) && decide (n = 65536))) := rfl
   generalize cpP o n k = pl at *
   obtain ⟨p, l⟩ := pl
   simp only at hp1 hp2 hp3 hsa hstep
   generalize cpX o n k = x at *
   have ep : (UInt8.ofNat p).toNat = p := by rw [UInt8.toNat_ofNat']; omega
   have yes : cpOn o n k = true → ∀ st', Wk st' ⟨[(0, .int .i64 o), (1, .int .i64 n), (5, .sl 172008 0 (l.length + 1 + 1)), (9, .int .i64 ((k + 1 : Nat) : Int))], [(172008, .arr 1 (.int .u8 ((p + 2 ^ k : Nat) : Int) :: (l ++ [UInt8.ofNat x]).map ub))]⟩ → R1.ap st' := fun h st' hw => by
    rw [if_pos h] at hstep
    have e : ((UInt8.ofNat (p + 2 ^ k)).toNat : Int) = ((p + 2 ^ k : Nat) : Int) := by rw [UInt8.toNat_ofNat', Nat.mod_eq_of_lt (show p + 2 ^ k < 2 ^ 8 by omega)]
    have := hR1 (k + 1) st' (by omega) (by omega)
    rw [hstep] at this
    simp only [List.map_cons, List.length_append, List.length_singleton] at this
    rw [show ub (UInt8.ofNat (p + 2 ^ k)) = .int .u8 ((p + 2 ^ k : Nat) : Int) by unfold ub; rw [e]] at this
    exact this hw
   have no : cpOn o n k = false → R1.ap ⟨[(0, .int .i64 o), (1, .int .i64 n), (5, .sl 172008 0 (l.length + 1)), (9, .int .i64 ((k : Int) + 1))], [(172008, .arr 1 ((UInt8.ofNat p :: l).map ub))]⟩ := fun h => by
    rw [if_neg (by rw [h]; decide)] at hstep
    refine hR1 (k + 1) _ (by omega) (by omega) (.le ?_)
    rw [hstep]
    simp (disch := omega) only [go_sem, simprocAttr]
   have ex : ((x : Nat) : Int) = 0 ↔ x = 0 := by omega
   by_cases hx0 : x = 0
   ·have hno : cpOn o n k = false := by rw [hon]; simp [hx0]
    subst hx0
    simp (disch := omega) only [go_sem, simprocAttr]
    (repeat (first | refine gskip_of ?_ | refine gcskip_of ?_ | refine gopen_of ?_) <;> simp (disch := omega) only [go_sem, simprocAttr])
    exact no hno
   ·have hx0' : ¬ ((x : Nat) : Int) = 0 := by omega
    have ei : ((k : Int)).toNat = k := by omega
    have hor := cp_or k hlt (p - 128) (by omega) (by omega)
    rw [show 128 + (p - 128) = p by omega] at hor
    have hset : ((UInt8.ofNat p :: l).map ub).set 0 (.int .u8 ((p + 2 ^ k : Nat) : Int)) = (UInt8.ofNat (p + 2 ^ k) :: l).map ub := by
     have : (UInt8.ofNat (p + 2 ^ k)).toNat = p + 2 ^ k := by rw [UInt8.toNat_ofNat']; omega
     show AV.int .u8 ((p + 2 ^ k : Nat) : Int) :: l.map ub = AV.int .u8 ((UInt8.ofNat (p + 2 ^ k)).toNat : Int) :: l.map ub
     rw [this]
    have hsa2 := sub_all (UInt8.ofNat (p + 2 ^ k) :: l)
    rw [List.length_cons] at hsa2
    have n0 : ∀ (a : AV) (xs : List AV), nth (a :: xs) 0 = a := fun _ _ => rfl
    have hs3 : ∀ a : AV, sub3 (a :: l.map ub) 0 (l.length + 1) = a :: l.map ub := fun a => by simp [sub3, List.take_of_length_le]
    have hux : (UInt8.ofNat x).toNat = x := by rw [UInt8.toNat_ofNat']; omega
    by_cases h6 : k = 6
    ·by_cases hnn : n = 65536
     ·have hno : cpOn o n k = false := by rw [hon]; simp [h6, hnn]
      subst h6 hnn
      simp (disch := omega) only [go_sem, simprocAttr, hx0']
      (repeat (first | refine gskip_of ?_ | refine gcskip_of ?_ | refine gopen_of ?_) <;> simp (disch := omega) only [go_sem, simprocAttr])
      exact no hno
     ·have hyes : cpOn o n k = true := by rw [hon]; simp [hx0, hnn]
      have hn' : ¬ ((n : Nat) : Int) = 65536 := by omega
      have hgo := yes hyes
      clear yes no hR1
      subst h6
      simp (disch := omega) only [go_sem, simprocAttr, hx0', hn', n0, ep, hor, List.set_cons_zero, hs3]
      (repeat (first | refine gskip_of ?_ | refine gcskip_of ?_ | refine gopen_of ?_) <;> simp (disch := omega) only [go_sem, simprocAttr, n0, ep, hor, List.set_cons_zero, hs3])
      exact hgo _ (.le (by simp (disch := omega) only [go_sem, simprocAttr]))
    ·have hyes : cpOn o n k = true := by rw [hon]; simp [hx0, h6]
     have h6' : ¬ ((k : Nat) : Int) = 6 := by omega
     have hgo := yes hyes
     clear yes no hR1
     simp (disch := omega) only [go_sem, simprocAttr, hx0', h6', ei, n0, ep, hor, List.set_cons_zero, hs3]
     (repeat (first | refine gskip_of ?_ | refine gcskip_of ?_ | refine gopen_of ?_) <;> simp (disch := omega) only [go_sem, simprocAttr, n0, ep, hor, List.set_cons_zero, hs3])
     exact hgo _ (.le (by simp (disch := omega) only [go_sem, simprocAttr]))
 ·obtain rfl : k = 7 := by omega
  unfold cpT at hR
  simp (disch := omega) only [go_sem, simprocAttr]
  exact hR.wk (h' := []) (r' := .ro 1 ((UInt8.ofNat (cpP o n 7).1 :: (cpP o n 7).2).map ub)) (ar' := [.undef, .undef]) rfl (.frz 172008 (.le (by simp (disch := omega) only [go_sem, simprocAttr, hsa]))) ⟨rfl, rfl⟩
end Go.Proofs.YtjoefngnjoofeaaDoor.Pk
namespace Go.Proofs.YtjoefngnjoofeaaDoor.Pk
open Eng
set_option maxRecDepth 10000
def insF : Nat → Bs → Bs
 | 0, _ => []
 | f + 1, p => if p = [] then [] else UInt8.ofNat (min p.length 127) :: (p.take (min p.length 127) ++ insF f (p.drop (min p.length 127)))
def insT (p : Bs) : Bs := insF p.length p
theorem insF_two : ∀ (f g : Nat) (p : Bs), p.length ≤ f → p.length ≤ g → insF f p = insF g p
 | 0, g, p, h, _ => by
  have : p = [] := List.length_eq_zero_iff.1 (by omega)
  subst this; cases g <;> simp [insF]
 | f + 1, 0, p, _, h => by
  have : p = [] := List.length_eq_zero_iff.1 (by omega)
  subst this; simp [insF]
 | f + 1, g + 1, p, h1, h2 => by
  by_cases h0 : p = []
  ·subst h0; simp [insF]
  ·have hp : 0 < p.length := List.length_pos_iff.2 h0
   rw [insF, if_neg h0, insF, if_neg h0, insF_two f g _ (by rw [List.length_drop]; omega) (by rw [List.length_drop]; omega)]
theorem ins_nil : insT [] = [] := rfl
theorem ins_step {p : Bs} (h : p ≠ []) : insT p = UInt8.ofNat (min p.length 127) :: (p.take (min p.length 127) ++ insT (p.drop (min p.length 127))) := by
 have hp : 0 < p.length := List.length_pos_iff.2 h
 obtain ⟨m, hm⟩ : ∃ m, p.length = m + 1 := ⟨p.length - 1, by omega⟩
 unfold insT
 rw [hm, insF, if_neg h, hm, insF_two m _ _ (by rw [List.length_drop]; omega) (Nat.le_refl _)]
theorem ins_len : ∀ (f : Nat) (p : Bs), p.length ≤ f → (insF f p).length ≤ 2 * p.length
 | 0, p, h => by simp [insF]
 | f + 1, p, h => by
  by_cases h0 : p = []
  ·subst h0; simp [insF]
  ·have hp : 0 < p.length := List.length_pos_iff.2 h0
   have := ins_len f (p.drop (min p.length 127)) (by rw [List.length_drop]; omega)
   rw [List.length_drop] at this
   rw [insF, if_neg h0]
   simp only [List.length_cons, List.length_append, List.length_take]
   omega
def PB : Nat := 173010
def PW : Nat := 173900
def OB : Nat := 173005
def OW : Nat := 173901
attribute [go_sem] PB PW OB OW
def flsH (pre pl out : Bs) : HP := [(PB, .var [.sl PW pre.length pl.length]), (PW, .arr 1 ((pre ++ pl).map ub)), (OB, .var [.sl OW 0 out.length]), (OW, .arr 1 (out.map ub))]
theorem sub_mid (a b : Bs) (k n : Nat) (h : k + n ≤ b.length) : sub3 ((a ++ b).map ub) (a.length + k) n = ((b.drop k).take n).map ub := by
 simp only [sub3, List.map_append, List.map_take, List.map_drop]
 rw [List.drop_append, List.drop_of_length_le (by simp), List.nil_append, List.length_map, Nat.add_sub_cancel_left]
set_option maxHeartbeats 1000000 in
theorem dflush_ok (pre pl out : Bs) (hp : pre.length ≤ 1000000) (hl : pl.length ≤ 1000000) (ho : out.length ≤ 10000000) : Eng.Spec Tryd.prog 36 (flsH pre pl out) [.vptr PB 0, .vptr OB 0]
    (fun h' v ar => h' = flsH (pre ++ pl) [] (out ++ insT pl) ∧ v = .tup [] ∧ ar = [.vptr PB 0, .vptr OB 0]) := by
 refine Cod.dflush_spec (fun E R hN hR => ?_)
 simp (disch := first | omega | (simp only [Lx]; omega)) only [go_sem, simprocAttr]
 refine vcW_loop hN (fun q : Nat × Bs => ⟨[(0, .vptr PB 0), (1, .vptr OB 0), (2000000, .vptr PB 0), (2000001, .vptr OB 0)], [(PB, .var [.sl PW (pre.length + q.1) (pl.length - q.1)]), (PW, .arr 1 ((pre ++ pl).map ub)), (OB, .var [.sl OW 0 q.2.length]), (OW, .arr 1 (q.2.map ub))]⟩) (fun q => q.1 ≤ pl.length ∧ q.2.length ≤ 10000000 + 2 * q.1 ∧ out ++ insT pl = q.2 ++ insT (pl.drop q.1)) (fun q => pl.length - q.1) (0, out) (.le (by simp (disch := first | omega | (simp only [Lx]; omega)) only [go_sem, simprocAttr, flsH])) ⟨by omega, by omega, by simp⟩ ?_
 rintro ⟨k, o⟩ R1 ⟨hk, hol, he⟩ hR1
 simp only at hk hol he
 by_cases hlt : k < pl.length
 ·have hne : pl.drop k ≠ [] := fun e => by have := congrArg List.length e; rw [List.length_drop, List.length_nil] at this; omega
  rw [ins_step hne, List.length_drop, List.drop_drop] at he
  have hmi : min (((pl.length - k : Nat) : Int)) 127 = ((min (pl.length - k) 127 : Nat) : Int) := by omega
  have hmp : 0 < min (pl.length - k) 127 := by omega
  have hmm : min (pl.length - k) 127 ≤ 127 ∧ min (pl.length - k) 127 ≤ pl.length - k := by omega
  generalize min (pl.length - k) 127 = m at *
  have hsm := sub_mid pre pl k m (by omega)
  have hso := sub_all o
  have hum := ub_of m (by omega)
  have htl : ((pl.drop k).take m).length = m := by rw [List.length_take, List.length_drop]; omega
  have e3 : pre.length + k + m = pre.length + (k + m) := by omega
  have e4 : pl.length - k - m = pl.length - (k + m) := by omega
  have fin := hR1 (k + m, o ++ [UInt8.ofNat m] ++ (pl.drop k).take m)
  simp (disch := first | omega | (simp only [Lx]; omega)) only [go_sem, simprocAttr, hmi, hsm, hso]
  refine ⟨⟨?_, ?_⟩, ?_⟩ <;> exact fin _ (by simp only; omega) ⟨by simp only; omega, by simp only [List.length_append, List.length_singleton, htl]; omega, by rw [he]; simp⟩ (.le (by simp (disch := first | omega | (simp only [Lx]; omega)) only [go_sem, simprocAttr, e3, e4, htl, List.length_append, List.length_singleton]))
 ·obtain rfl : k = pl.length := by omega
  rw [List.drop_length, ins_nil, List.append_nil] at he
  rw [he] at hR
  simp (disch := first | omega | (simp only [Lx]; omega)) only [go_sem, simprocAttr]
  exact hR.le (by simp (disch := first | omega | (simp only [Lx]; omega)) only [go_sem, simprocAttr, flsH, List.append_nil, List.length_append, List.length_nil, Nat.sub_self]) ⟨rfl, rfl, rfl⟩
end Go.Proofs.YtjoefngnjoofeaaDoor.Pk
namespace Go.Proofs.YtjoefngnjoofeaaDoor.Pk
open Eng
set_option maxRecDepth 10000
inductive Ops (base : Bs) : Bs → Bs → Prop
 | nil : Ops base [] []
 | ins (t b c : Bs) : Ops base t b → 1 ≤ c.length → c.length ≤ 127 → Ops base (t ++ c) (b ++ UInt8.ofNat c.length :: c)
 | cpy (t b : Bs) (o n : Nat) : Ops base t b → 4 ≤ n → n ≤ 65536 → o + n ≤ base.length → Ops base (t ++ (base.drop o).take n) (b ++ cpT o n)
theorem ops_ins {base : Bs} : ∀ (f : Nat) (p t b : Bs), p.length ≤ f → Ops base t b → Ops base (t ++ p) (b ++ insT p)
 | 0, p, t, b, h, ho => by
  have : p = [] := List.length_eq_zero_iff.1 (by omega)
  subst this
  rw [ins_nil, List.append_nil, List.append_nil]
  exact ho
 | f + 1, p, t, b, h, ho => by
  by_cases h0 : p = []
  ·subst h0
   rw [ins_nil, List.append_nil, List.append_nil]
   exact ho
  ·have hp : 0 < p.length := List.length_pos_iff.2 h0
   have hl : (p.take (min p.length 127)).length = min p.length 127 := by rw [List.length_take]; omega
   have h1 := Ops.ins t b (p.take (min p.length 127)) ho (by omega) (by omega)
   have h2 := ops_ins f (p.drop (min p.length 127)) _ _ (by rw [List.length_drop]; omega) h1
   rw [ins_step h0]
   rw [List.append_assoc, List.take_append_drop, hl] at h2
   simpa using h2
def DeltaP (base t d : Bs) : Prop := (∃ b, Ops base t b ∧ d = sizT base.length ++ sizT t.length ++ b) ∧ d.length ≤ 20 + 2 * t.length
theorem cpT_len (o n : Nat) : (cpT o n).length ≤ 8 := by
 have := (cpP_lt o n 7).2.2
 simp only [cpT, List.length_cons]; omega
def SP : Nat := 173902
attribute [go_sem] SP
def PbOK (l : List (MK × AV)) (m : Nat) : Prop := ∀ kv ∈ l, ∃ n : Nat, kv.2 = .int .i64 n ∧ n + 4 ≤ m
theorem pb_put {l : List (MK × AV)} {m n : Nat} {k : MK} (h : PbOK l m) (hn : n + 4 ≤ m) : PbOK (mput l k (.int .i64 n)) m := fun kv hk => by
 rcases pl_put hk with hk | rfl
 ·exact h kv hk
 ·exact ⟨n, rfl, hn⟩
theorem clos_callable : callable Tryd.prog 36 = true := by kernel_rfl
set_option maxHeartbeats 4000000 in
theorem dmake_ok (base t : Bs) (hb : base.length ≤ 65000) (ht : t.length ≤ 65000) : Eng.Spec Tryd.prog 18 [] [.str base, .str t] (fun h r _ => h = [] ∧ ∃ d, DeltaP base t d ∧ r = .str d) := by
 refine Cod.dmake_spec (fun E R hN hR => ?_)
 have hs1 := dsized_ok base.length (by omega)
 have hs2 := dsized_ok t.length (by omega)
 have hl1 := sizB_len 9 base.length
 have hl2 := sizB_len 9 t.length
 change (sizT base.length).length ≤ 10 at hl1
 change (sizT t.length).length ≤ 10 at hl2
 unfold DeltaP at hR
 generalize sizT base.length = z1 at *
 generalize sizT t.length = z2 at *
 have hsa1 := sub_all z1
 have hsa2 := sub_all z2
 simp (disch := first | omega | (simp only [Lx]; omega)) only [go_sem, simprocAttr]
 refine call_win [] hs1 trivial (fun _ => rfl) ?_
 rintro h' v ar ⟨rfl, rfl, rfl⟩
 refine ⟨by simp (disch := first | omega | (simp only [Lx]; omega)) only [go_sem, simprocAttr], rfl, ?_⟩
 simp (disch := first | omega | (simp only [Lx]; omega)) only [go_sem, simprocAttr]
 refine call_wk ⟨[(0, .str base), (1, .str t), (20, .sl OW 0 z1.length), (22, .int .i64 t.length)], [(OW, .arr 1 (z1.map ub))]⟩ (.ren 171013 OW rfl rfl (.le ?_)) rfl ?_
 ·simp (disch := first | omega | (simp only [Lx]; omega)) only [go_sem, simprocAttr]
 refine call_win [] hs2 trivial (fun _ => rfl) ?_
 rintro h' v ar ⟨rfl, rfl, rfl⟩
 refine ⟨by simp (disch := first | omega | (simp only [Lx]; omega)) only [go_sem, simprocAttr], rfl, ?_⟩
 simp (disch := first | omega | (simp only [Lx]; omega)) only [go_sem, simprocAttr, hsa1, hsa2]
 refine vcW_loop hN (fun q : Nat × List (MK × AV) => ⟨[(0, .str base), (1, .str t), (5, .vptr OB 0), (6, .ptr 173025 0 0), (7, .int .i64 q.1)], [(OB, .var [.sl OW 0 (z1 ++ z2).length]), (OW, .arr 1 ((z1 ++ z2).map ub)), (173025, .mp none q.2)]⟩) (fun q => q.1 ≤ 65000 ∧ PbOK q.2 base.length) (fun q => base.length - q.1) (0, []) (.le ?_) ⟨by simp only; omega, fun kv hk => by cases hk⟩ ?_
 ·simp (disch := first | omega | (simp only [Lx]; omega)) only [go_sem, simprocAttr, List.length_append]
 rintro ⟨i, l⟩ R1 ⟨hi, hpl⟩ hR1
 simp only at hi hpl
 by_cases hlt : i + 4 ≤ base.length
 ·cases hf : mfind l (MK.s (List.take (((i : Int) + 4).toNat - i) (List.drop i base))) with
  | some v =>
   obtain ⟨k', hk'⟩ := pl_find hf
   obtain ⟨a, ha, hat⟩ := hpl _ hk'
   simp only at ha
   subst ha
   simp (disch := first | omega | (simp only [Lx]; omega)) only [go_sem, simprocAttr, hf]
   exact hR1 (i + 1, l) _ (by simp only; omega) ⟨by simp only; omega, hpl⟩ (.le (by simp (disch := first | omega | (simp only [Lx]; omega)) only [go_sem, simprocAttr]))
  | none =>
   simp (disch := first | omega | (simp only [Lx]; omega)) only [go_sem, simprocAttr, hf]
   exact hR1 (i + 1, mput l (MK.s (List.take (((i : Int) + 4).toNat - i) (List.drop i base))) (.int .i64 i)) _ (by simp only; omega) ⟨by simp only; omega, pb_put hpl hlt⟩ (.le (by simp (disch := first | omega | (simp only [Lx]; omega)) only [go_sem, simprocAttr]))
 ·clear hR1
  generalize hz : z1 ++ z2 = z at *
  have hzl : z.length ≤ 20 := by rw [← hz, List.length_append]; omega
  simp (disch := first | omega | (simp only [Lx]; omega)) only [go_sem, simprocAttr]
  refine vcW_loop hN (fun q : Nat × Bs × Bs × Bs => ⟨[(0, .str base), (1, .str t), (5, .vptr OB 0), (6, .ptr 173025 0 0), (10, .vptr PB 0), (11, .clo 36 [.vptr PB 0, .vptr OB 0]), (12, .int .i64 q.1)], [(PB, .var [.sl PW q.2.1.length q.2.2.1.length]), (PW, .arr 1 ((q.2.1 ++ q.2.2.1).map ub)), (OB, .var [.sl OW 0 (z ++ q.2.2.2).length]), (OW, .arr 1 ((z ++ q.2.2.2).map ub)), (173025, .mp none l)]⟩)
   (fun q => q.1 ≤ t.length ∧ q.2.1.length + q.2.2.1.length ≤ q.1 ∧ q.2.2.2.length + 2 * q.2.2.1.length ≤ 2 * q.1 ∧ ∃ t', Ops base t' q.2.2.2 ∧ t' ++ q.2.2.1 = t.take q.1) (fun q => t.length - q.1) (0, [], [], []) (.nilV PB 0 PW 1 [.nilsl] rfl rfl rfl (.le ?_)) ⟨by simp only; omega, by simp, by simp, [], .nil, by simp⟩ ?_
  ·simp (disch := first | omega | (simp only [Lx]; omega)) only [go_sem, simprocAttr, List.append_nil, List.length_nil, List.map_nil]
  rintro ⟨i, pre, pl, ob⟩ R1 ⟨hi, hpr, hob, t', hops, htk⟩ hR1
  simp only at hi hpr hob hops htk
  have hsm := sub_mid pre pl 0 pl.length (by omega)
  rw [Nat.add_zero, List.drop_zero, List.take_of_length_le (Nat.le_refl _)] at hsm
  by_cases hlt : i < t.length
  ·simp (disch := first | omega | (simp only [Lx]; omega)) only [go_sem, simprocAttr]
   refine vcW_cut hN (fun q : Nat × Bool => ⟨[(0, .str base), (1, .str t), (5, .vptr OB 0), (6, .ptr 173025 0 0), (10, .vptr PB 0), (11, .clo 36 [.vptr PB 0, .vptr OB 0]), (12, .int .i64 i), (13, .int .i64 0), (14, .int .i64 q.1), (15, .bool q.2)], [(PB, .var [.sl PW pre.length pl.length]), (PW, .arr 1 ((pre ++ pl).map ub)), (OB, .var [.sl OW 0 (z ++ ob).length]), (OW, .arr 1 ((z ++ ob).map ub)), (173025, .mp none l)]⟩) (fun q => q.1 ≤ 65000) (fun R2 hR2 => ?_) ?_
   ·by_cases h4 : i + 4 ≤ t.length
    ·cases hf : mfind l (MK.s (List.take (((i : Int) + 4).toNat - i) (List.drop i t))) with
     | some v =>
      obtain ⟨k', hk'⟩ := pl_find hf
      obtain ⟨a, ha, hat⟩ := hpl _ hk'
      simp only at ha
      subst ha
      simp (disch := first | omega | (simp only [Lx]; omega)) only [go_sem, simprocAttr, hf]
      exact hR2 (a, true) _ (by simp only; omega) (.le (by simp (disch := first | omega | (simp only [Lx]; omega)) only [go_sem, simprocAttr]))
     | none =>
      simp (disch := first | omega | (simp only [Lx]; omega)) only [go_sem, simprocAttr, hf]
      exact hR2 (0, false) _ (by simp only; omega) (.le (by simp (disch := first | omega | (simp only [Lx]; omega)) only [go_sem, simprocAttr]))
    ·simp (disch := first | omega | (simp only [Lx]; omega)) only [go_sem, simprocAttr]
     exact hR2 (0, false) _ (by simp only; omega) (.le (by simp (disch := first | omega | (simp only [Lx]; omega)) only [go_sem, simprocAttr]))
   ·rintro ⟨o, ok⟩ ho
    simp only at ho
    refine vcW_cut hN (fun n : Nat => ⟨[(0, .str base), (1, .str t), (5, .vptr OB 0), (6, .ptr 173025 0 0), (10, .vptr PB 0), (11, .clo 36 [.vptr PB 0, .vptr OB 0]), (12, .int .i64 i), (13, .int .i64 n), (14, .int .i64 o)], [(PB, .var [.sl PW pre.length pl.length]), (PW, .arr 1 ((pre ++ pl).map ub)), (OB, .var [.sl OW 0 (z ++ ob).length]), (OW, .arr 1 ((z ++ ob).map ub)), (173025, .mp none l)]⟩) (fun n => n ≤ 65536 ∧ (n = 0 ∨ (o + n ≤ base.length ∧ i + n ≤ t.length)) ∧ ∀ x, x < n → base.getD (o + x) 0 = t.getD (i + x) 0) (fun R2 hR2 => ?_) ?_
    ·simp (disch := first | omega | (simp only [Lx]; omega)) only [go_sem, simprocAttr]
     refine vcW_loop hN (fun n : Nat => ⟨[(0, .str base), (1, .str t), (5, .vptr OB 0), (6, .ptr 173025 0 0), (10, .vptr PB 0), (11, .clo 36 [.vptr PB 0, .vptr OB 0]), (12, .int .i64 i), (13, .int .i64 n), (14, .int .i64 o), (15, .bool ok)], [(PB, .var [.sl PW pre.length pl.length]), (PW, .arr 1 ((pre ++ pl).map ub)), (OB, .var [.sl OW 0 (z ++ ob).length]), (OW, .arr 1 ((z ++ ob).map ub)), (173025, .mp none l)]⟩) (fun n => n ≤ 65536 ∧ (n = 0 ∨ (o + n ≤ base.length ∧ i + n ≤ t.length)) ∧ ∀ x, x < n → base.getD (o + x) 0 = t.getD (i + x) 0) (fun n => 65536 - n) 0 (.le (by simp (disch := first | omega | (simp only [Lx]; omega)) only [go_sem, simprocAttr])) ⟨by omega, .inl rfl, fun x hx => by omega⟩ ?_
     rintro n R4 hinv hR4
     have fin := hR2 n
     have ei1 : ((o : Int) + (n : Int)).toNat = o + n := by omega
     have ei2 : ((i : Int) + (n : Int)).toNat = i + n := by omega
     cases ok with
     | false =>
      simp (disch := first | omega | (simp only [Lx]; omega)) only [go_sem, simprocAttr]
      (repeat (first | refine gskip_of ?_ | refine gcskip_of ?_ | refine gopen_of ?_) <;> simp (disch := first | omega | (simp only [Lx]; omega)) only [go_sem, simprocAttr])
      exact fin _ hinv (.le (by simp (disch := first | omega | (simp only [Lx]; omega)) only [go_sem, simprocAttr]))
     | true =>
      by_cases g1 : n < 65536
      ·by_cases g2 : o + n < base.length
       ·by_cases g3 : i + n < t.length
        ·by_cases g4 : base.getD (o + n) 0 = t.getD (i + n) 0
         ·have g4' : ((base.getD (o + n) 0).toNat : Int) = ((t.getD (i + n) 0).toNat : Int) := by rw [g4]
          simp (disch := first | omega | (simp only [Lx]; omega)) only [go_sem, simprocAttr, ei1, ei2, g4']
          (repeat (first | refine gskip_of ?_ | refine gcskip_of ?_ | refine gopen_of ?_) <;> simp (disch := first | omega | (simp only [Lx]; omega)) only [go_sem, simprocAttr])
          exact hR4 (n + 1) _ (by omega) ⟨by omega, .inr ⟨by omega, by omega⟩, fun x hx => by
           by_cases e : x = n
           ·subst e; exact g4
           ·exact hinv.2.2 x (by omega)⟩ (.le (by simp (disch := first | omega | (simp only [Lx]; omega)) only [go_sem, simprocAttr]))
         ·have g4' : ¬ ((base.getD (o + n) 0).toNat : Int) = ((t.getD (i + n) 0).toNat : Int) := fun e => g4 (UInt8.toNat_inj.1 (by omega))
          simp (disch := first | omega | (simp only [Lx]; omega)) only [go_sem, simprocAttr, ei1, ei2, g4']
          (repeat (first | refine gskip_of ?_ | refine gcskip_of ?_ | refine gopen_of ?_) <;> simp (disch := first | omega | (simp only [Lx]; omega)) only [go_sem, simprocAttr])
          exact fin _ hinv (.le (by simp (disch := first | omega | (simp only [Lx]; omega)) only [go_sem, simprocAttr]))
        ·simp (disch := first | omega | (simp only [Lx]; omega)) only [go_sem, simprocAttr]
         (repeat (first | refine gskip_of ?_ | refine gcskip_of ?_ | refine gopen_of ?_) <;> simp (disch := first | omega | (simp only [Lx]; omega)) only [go_sem, simprocAttr])
         exact fin _ hinv (.le (by simp (disch := first | omega | (simp only [Lx]; omega)) only [go_sem, simprocAttr]))
       ·simp (disch := first | omega | (simp only [Lx]; omega)) only [go_sem, simprocAttr]
        (repeat (first | refine gskip_of ?_ | refine gcskip_of ?_ | refine gopen_of ?_) <;> simp (disch := first | omega | (simp only [Lx]; omega)) only [go_sem, simprocAttr])
        exact fin _ hinv (.le (by simp (disch := first | omega | (simp only [Lx]; omega)) only [go_sem, simprocAttr]))
      ·exfalso
       obtain ⟨h1, h2, _⟩ := hinv
       omega
    ·rintro n ⟨hn1, hn2, hn3⟩
     by_cases hn : n < 4
     ·have hgt : t.take (i + 1) = t.take i ++ [t.getD i 0] := take_snoc t 0 hlt
      simp (disch := first | omega | (simp only [Lx]; omega)) only [go_sem, simprocAttr, hsm]
      exact hR1 (i + 1, [], pl ++ [t.getD i 0], ob) _ (by simp only; omega) ⟨by simp only; omega, by simp only [List.length_nil, List.length_append, List.length_singleton]; omega, by simp only [List.length_append, List.length_singleton]; omega, t', hops, by rw [hgt, ← htk, List.append_assoc]⟩ (.le (by simp (disch := first | omega | (simp only [Lx]; omega)) only [go_sem, simprocAttr, List.nil_append, List.length_nil]; simp [ub]))
     ·obtain ⟨hob1, hit⟩ : o + n ≤ base.length ∧ i + n ≤ t.length := hn2.resolve_left (by omega)
      have hfl := dflush_ok pre pl (z ++ ob) (by omega) (by omega) (by rw [List.length_append]; omega)
      have hcp := dcopy_ok o n (by omega) hn1
      have hil := ins_len pl.length pl (Nat.le_refl _)
      change (insT pl).length ≤ 2 * pl.length at hil
      have hcl := cpT_len o n
      have hsa := sub_all (z ++ ob ++ insT pl)
      rw [List.length_append, List.length_append] at hsa
      have hops2 := ops_ins pl.length pl t' ob (Nat.le_refl _) hops
      rw [htk] at hops2
      have hops3 := Ops.cpy _ _ o n hops2 (by omega) hn1 hob1
      have heq : t.take i ++ (base.drop o).take n = t.take (i + n) := by
       apply List.ext_getElem?
       intro x
       have htl : (t.take i).length = i := by rw [List.length_take]; omega
       by_cases hx : x < i
       ·rw [List.getElem?_append_left (by omega), List.getElem?_take, List.getElem?_take, if_pos hx, if_pos (by omega)]
       ·rw [List.getElem?_append_right (by omega), htl, List.getElem?_take, List.getElem?_take, List.getElem?_drop]
        by_cases hx2 : x - i < n
        ·have := hn3 (x - i) hx2
         rw [if_pos hx2, if_pos (by omega)]
         rw [show i + (x - i) = x by omega] at this
         rw [List.getD_eq_getElem?_getD, List.getD_eq_getElem?_getD, List.getElem?_eq_getElem (by omega), List.getElem?_eq_getElem (by omega)] at this
         rw [List.getElem?_eq_getElem (by omega), List.getElem?_eq_getElem (by omega)]
         simpa using this
        ·rw [if_neg hx2, if_neg (by omega)]
      rw [heq] at hops3
      simp (disch := first | omega | (simp only [Lx]; omega)) only [go_sem, simprocAttr]
      refine dyn_clo (bargs := [.c (.vptr PB 0), .c (.vptr OB 0)]) (bs := [.vptr PB 0, .vptr OB 0]) clos_callable rfl rfl ?_
      refine call_win (flsH pre pl (z ++ ob)) hfl (by simp (disch := first | omega | (simp only [Lx]; omega)) only [go_sem, simprocAttr, flsH, List.length_append]) nofun ?_
      rintro h' v ar ⟨rfl, rfl, rfl⟩
      refine ⟨by simp (disch := first | omega | (simp only [Lx]; omega)) only [go_sem, simprocAttr, flsH], rfl, ?_⟩
      simp (disch := first | omega | (simp only [Lx]; omega)) only [go_sem, simprocAttr, flsH]
      refine call_ro hcp rfl rfl ?_
      simp (disch := first | omega | (simp only [Lx]; omega)) only [go_sem, simprocAttr, hsa]
      exact hR1 (i + n, pre ++ pl, [], ob ++ insT pl ++ cpT o n) _ (by simp only; omega) ⟨by simp only; omega, by simp only [List.length_nil, List.length_append]; omega, by simp only [List.length_nil, List.length_append]; omega, _, hops3, by simp⟩ (.le (by simp (disch := first | omega | (simp only [Lx]; omega)) only [go_sem, simprocAttr, List.append_nil, List.length_nil, List.length_append, List.append_assoc, Nat.add_assoc]))
  ·obtain rfl : i = t.length := by omega
   have hfl := dflush_ok pre pl (z ++ ob) (by omega) (by omega) (by rw [List.length_append]; omega)
   have hil := ins_len pl.length pl (Nat.le_refl _)
   change (insT pl).length ≤ 2 * pl.length at hil
   have hops2 := ops_ins pl.length pl t' ob (Nat.le_refl _) hops
   rw [htk, List.take_of_length_le (Nat.le_refl _)] at hops2
   have hsa := sub_all (z ++ ob ++ insT pl)
   simp (disch := first | omega | (simp only [Lx]; omega)) only [go_sem, simprocAttr]
   refine dyn_clo (bargs := [.c (.vptr PB 0), .c (.vptr OB 0)]) (bs := [.vptr PB 0, .vptr OB 0]) clos_callable rfl rfl ?_
   refine call_win (flsH pre pl (z ++ ob)) hfl (by simp (disch := first | omega | (simp only [Lx]; omega)) only [go_sem, simprocAttr, flsH, List.length_append]) nofun ?_
   rintro h' v ar ⟨rfl, rfl, rfl⟩
   refine ⟨by simp (disch := first | omega | (simp only [Lx]; omega)) only [go_sem, simprocAttr, flsH], rfl, ?_⟩
   generalize hOB : ob ++ insT pl = ob2 at *
   have hol2 : ob2.length ≤ 2 * t.length := by rw [← hOB, List.length_append]; omega
   have eob : z ++ ob ++ insT pl = z ++ ob2 := by rw [List.append_assoc, hOB]
   rw [eob] at hsa ⊢
   clear hR1 htk hops
   simp (disch := first | omega | (simp only [Lx]; omega)) only [go_sem, simprocAttr, flsH]
   refine call_win [] hs1 trivial (fun _ => rfl) ?_
   rintro h' v ar ⟨rfl, rfl, rfl⟩
   refine ⟨by simp (disch := first | omega | (simp only [Lx]; omega)) only [go_sem, simprocAttr], rfl, ?_⟩
   simp (disch := first | omega | (simp only [Lx]; omega)) only [go_sem, simprocAttr]
   refine call_wk ⟨[(0, .str base), (1, .str t), (5, .vptr OB 0), (132, .sl SP 0 z1.length), (134, .int .i64 t.length)], [(SP, .arr 1 (z1.map ub)), (OB, .var [.sl OW 0 (z ++ ob2).length]), (OW, .arr 1 ((z ++ ob2).map ub))]⟩ (.ren 171013 SP rfl rfl (.le ?_)) rfl ?_
   ·simp (disch := first | omega | (simp only [Lx]; omega)) only [go_sem, simprocAttr, List.length_append]
   refine call_win [] hs2 trivial (fun _ => rfl) ?_
   rintro h' v ar ⟨rfl, rfl, rfl⟩
   refine ⟨by simp (disch := first | omega | (simp only [Lx]; omega)) only [go_sem, simprocAttr], rfl, ?_⟩
   simp (disch := first | omega | (simp only [Lx]; omega)) only [go_sem, simprocAttr, hsa1, hsa2]
   refine vcW_loop hN (fun q : Nat × Bs => ⟨[(1, .str (t.drop q.1)), (5, .vptr OB 0), (16, .sl SP 0 (z ++ q.2).length)], [(SP, .arr 1 ((z ++ q.2).map ub)), (OB, .var [.sl OW 0 (z ++ ob2).length]), (OW, .arr 1 ((z ++ ob2).map ub))]⟩) (fun q => q.1 ≤ t.length ∧ q.2.length ≤ 2 * q.1 ∧ Ops base (t.take q.1) q.2) (fun q => t.length - q.1) (0, []) (.le ?_) ⟨by simp only; omega, by simp, .nil⟩ ?_
   ·simp (disch := first | omega | (simp only [Lx]; omega)) only [go_sem, simprocAttr, List.append_nil, ← hz, List.length_append, List.drop_zero]
   rintro ⟨k, sb⟩ R1 ⟨hk, hsbl, hops⟩ hR1
   simp only at hk hsbl hops
   have hdl : (t.drop k).length = t.length - k := List.length_drop ..
   have hsz := sub_all (z ++ sb)
   by_cases hlt : k < t.length
   ·have hmi : min (((t.length - k : Nat) : Int)) 127 = ((min (t.length - k) 127 : Nat) : Int) := by omega
    have hmp : 0 < min (t.length - k) 127 := by omega
    have hmm : min (t.length - k) 127 ≤ 127 ∧ min (t.length - k) 127 ≤ t.length - k := by omega
    generalize min (t.length - k) 127 = m at *
    have htl : ((t.drop k).take m).length = m := by rw [List.length_take, List.length_drop]; omega
    have hops2 := Ops.ins _ _ ((t.drop k).take m) hops (by omega) (by omega)
    rw [htl] at hops2
    have heq : t.take k ++ (t.drop k).take m = t.take (k + m) := by rw [List.take_add]
    rw [heq] at hops2
    have hum := ub_of m (by omega)
    simp (disch := first | omega | (simp only [Lx]; omega)) only [go_sem, simprocAttr, hdl, hmi, hsz]
    refine hR1 (k + m, sb ++ UInt8.ofNat m :: (t.drop k).take m) _ (by simp only; omega) ⟨by simp only; omega, by simp only [List.length_append, List.length_cons, htl]; omega, hops2⟩ (.le ?_)
    have e1 : z ++ (sb ++ UInt8.ofNat m :: (t.drop k).take m) = z ++ sb ++ [UInt8.ofNat m] ++ (t.drop k).take m := by simp
    rw [e1]
    simp (disch := first | omega | (simp only [Lx]; omega)) only [go_sem, simprocAttr, htl, List.drop_drop, List.length_append, List.length_singleton]
   ·obtain rfl : k = t.length := by omega
    rw [List.take_of_length_le (Nat.le_refl _)] at hops
    have hb1 := bytes_pack (z ++ sb)
    have hb2 := bytes_pack (z ++ ob2)
    have ha1 := allB_pack (z ++ sb)
    have ha2 := allB_pack (z ++ ob2)
    by_cases hc : sb.length < ob2.length
    ·simp (disch := first | omega | (simp only [Lx]; omega)) only [go_sem, simprocAttr, hdl, hsz, hsa, hb1, hb2, ha1, ha2]
     exact hR.ro ⟨rfl, _, ⟨⟨sb, hops, rfl⟩, by rw [List.length_append]; omega⟩, rfl⟩
    ·simp (disch := first | omega | (simp only [Lx]; omega)) only [go_sem, simprocAttr, hdl, hsz, hsa, hb1, hb2, ha1, ha2]
     exact hR.ro ⟨rfl, _, ⟨⟨ob2, hops2, rfl⟩, by rw [List.length_append]; omega⟩, rfl⟩
end Go.Proofs.YtjoefngnjoofeaaDoor.Pk
namespace Go.Proofs.YtjoefngnjoofeaaDoor.Pk
open Eng Sh
set_option maxRecDepth 10000
structure It where
 k : Int
 d : Bs
 dl : Bool
 bs : Int
 bn : Bool
def itA (x : It) : AV := .agg [.int .i64 x.k, .str x.d, .bool x.dl, .int .i64 x.bs, .bool x.bn]
def it0 : It := ⟨0, [], false, 0, false⟩
def errI (its : List It) (i : Nat) (x : It) : Int :=
 if checkP x.k x.d ≠ 0 then checkP x.k x.d
 else if x.dl = true ∧ (x.bs < 0 ∨ (i : Int) ≤ x.bs) then 1
 else if x.dl = true ∧ (its.getD x.bs.toNat it0).k ≠ x.k then 10
 else 0
def hdN (n : Nat) : Bs := packHd ++ (litB n 4).reverse
inductive BR (its : List It) : Nat → Bs → List Nat → Prop
 | nil : BR its 0 (hdN its.length) []
 | obj (i : Nat) (o : Bs) (l : List Nat) (x : It) (t : Bs) : BR its i o l → its[i]? = some x → errI its i x = 0 → x.dl = false → DeflP x.d t → BR its (i + 1) (o ++ (hedB x.k.toNat x.d.length ++ zlibT t x.d)) (l ++ [o.length])
 | nam (i : Nat) (o : Bs) (l : List Nat) (x : It) (d t : Bs) : BR its i o l → its[i]? = some x → errI its i x = 0 → x.dl = true → x.bn = true → DeltaP (its.getD x.bs.toNat it0).d x.d d → DeflP d t →
     BR its (i + 1) (o ++ (hedB 7 d.length ++ sha1 (textP (its.getD x.bs.toNat it0).k (its.getD x.bs.toNat it0).d) ++ zlibT t d)) (l ++ [o.length])
 | off (i : Nat) (o : Bs) (l : List Nat) (x : It) (d t : Bs) : BR its i o l → its[i]? = some x → errI its i x = 0 → x.dl = true → x.bn = false → DeltaP (its.getD x.bs.toNat it0).d x.d d → DeflP d t →
     BR its (i + 1) (o ++ (hedB 6 d.length ++ bakB (o.length - l.getD x.bs.toNat 0) ++ zlibT t d)) (l ++ [o.length])
def BuiltR (its : List It) (r : AV) : Prop :=
 (∃ o l, BR its its.length o l ∧ r = .tup [.str (o ++ sha1 o), .int .i64 0]) ∨
 ∃ i o l x, BR its i o l ∧ its[i]? = some x ∧ errI its i x ≠ 0 ∧ r = .tup [.str [], .int .i64 (errI its i x)]
theorem hdB_len : ∀ (f c m : Nat), (hdB f c m).length ≤ f + 1
 | 0, c, m => by simp [hdB]
 | f + 1, c, m => by
  have := hdB_len f (m % 128) (m / 128)
  rw [hdB]; split <;> simp <;> omega
theorem bkB_len : ∀ (f : Nat) (acc : Bs) (m : Nat), (bkB f acc m).length ≤ f + acc.length
 | 0, acc, m => by simp [bkB]
 | f + 1, acc, m => by
  have := bkB_len f (UInt8.ofNat ((m - 1) % 128 + 128) :: acc) ((m - 1) / 128)
  rw [bkB]; split <;> simp at * <;> omega
theorem zlibT_len (t s : Bs) : (zlibT t s).length = t.length + 6 := by
 have := litB_len (adlV s) 4
 simp only [zlibT, List.length_append, List.length_reverse, List.length_cons, List.length_nil]
 omega
theorem getD_len {its : List It} (hd : ∀ x ∈ its, x.d.length ≤ 20000) (k : Nat) : (its.getD k it0).d.length ≤ 20000 := by
 rw [List.getD_eq_getElem?_getD]
 cases h : its[k]? with
 | none => simp [it0]
 | some x => exact hd x (List.mem_of_getElem? h)
theorem hedB_len (k n : Nat) : (hedB k n).length ≤ 10 := hdB_len 9 _ _
theorem bakB_len (n : Nat) : (bakB n).length ≤ 10 := bkB_len 9 _ _
theorem br_len {its : List It} (hd : ∀ x ∈ its, x.d.length ≤ 20000) : ∀ {i : Nat} {o : Bs} {l : List Nat}, BR its i o l → o.length ≤ 12 + 40200 * i ∧ 12 ≤ o.length ∧ l.length = i ∧ (∀ n ∈ l, n < o.length) ∧ i ≤ its.length := by
 intro i o l h
 have snoc : ∀ {l : List Nat} {o z : Bs}, (∀ n ∈ l, n < o.length) → 1 ≤ z.length → ∀ n ∈ l ++ [o.length], n < (o ++ z).length := by
  intro l o z h1 h2 n hn
  rw [List.length_append]
  rcases List.mem_append.1 hn with hn | hn
  ·have := h1 n hn; omega
  ·have := List.mem_singleton.1 hn; omega
 induction h with
 | nil =>
  have := litB_len its.length 4
  refine ⟨?_, ?_, rfl, fun n hn => (by cases hn), by omega⟩ <;> simp [hdN, packHd, this]
 | obj i o l x t h hx he hdl hp ih =>
  obtain ⟨h1, h2, h3, h4, h5⟩ := ih
  have hxd := hd x (List.mem_of_getElem? hx)
  have hlt := (List.getElem?_eq_some_iff.1 hx).1
  have g1 := hedB_len x.k.toNat x.d.length
  have g2 := zlibT_len t x.d
  have g3 := defl_len hp
  have hz : 1 ≤ (hedB x.k.toNat x.d.length ++ zlibT t x.d).length := by rw [List.length_append]; omega
  refine ⟨?_, ?_, by simp [h3], snoc h4 hz, by omega⟩ <;> simp only [List.length_append] <;> omega
 | nam i o l x d t h hx he hdl hbn hde hp ih =>
  obtain ⟨h1, h2, h3, h4, h5⟩ := ih
  have hxd := hd x (List.mem_of_getElem? hx)
  have hlt := (List.getElem?_eq_some_iff.1 hx).1
  have g1 := hedB_len 7 d.length
  have g2 := zlibT_len t d
  have g3 := defl_len hp
  have g4 := hde.2
  have g5 := sha1_len (textP (its.getD x.bs.toNat it0).k (its.getD x.bs.toNat it0).d)
  refine ⟨?_, ?_, by simp [h3], snoc h4 (by simp only [List.length_append]; omega), by omega⟩ <;> simp only [List.length_append] <;> omega
 | off i o l x d t h hx he hdl hbn hde hp ih =>
  obtain ⟨h1, h2, h3, h4, h5⟩ := ih
  have hxd := hd x (List.mem_of_getElem? hx)
  have hlt := (List.getElem?_eq_some_iff.1 hx).1
  have g1 := hedB_len 6 d.length
  have g2 := zlibT_len t d
  have g3 := defl_len hp
  have g4 := hde.2
  have g5 := bakB_len (o.length - l.getD x.bs.toNat 0)
  refine ⟨?_, ?_, by simp [h3], snoc h4 (by simp only [List.length_append]; omega), by omega⟩ <;> simp only [List.length_append] <;> omega
theorem check_kind {k : Int} {d : Bs} (h : checkP k d = 0) : 1 ≤ k ∧ k ≤ 4 ∧ d.length ≤ 65000 := by
 refine ⟨?_, ?_, check_len h⟩ <;>
 ·unfold checkP at h
  split at h
  ·cases h
  ·rename_i hn
   unfold nameP at hn
   by_cases h1 : k = 1
   ·omega
   by_cases h2 : k = 2
   ·omega
   by_cases h3 : k = 3
   ·omega
   by_cases h4 : k = 4
   ·omega
   simp [h1, h2, h3, h4] at hn
set_option maxHeartbeats 4000000 in
theorem pbuild_ok (its : List It) (hn : its.length ≤ 20) (hd : ∀ x ∈ its, x.d.length ≤ 20000) : Eng.Spec Tryd.prog 7 [] [.ro 5 (its.map itA)] (fun h r _ => h = [] ∧ BuiltR its r) := by
 refine Cod.pbuild_spec (fun E R hN hR => ?_)
 have h2 := big_ok 2 4 (by decide) (by decide)
 have h0 := big_ok its.length 4 (by omega) (by decide)
 have e2 : (litB 2 4).reverse = [0, 0, 0, 2] := by decide
 rw [e2] at h2
 have hl4 := litB_len its.length 4
 have hil : (its.map itA).length = its.length := List.length_map ..
 simp (disch := omega) only [go_sem, simprocAttr, hil]
 refine call_ro h2 rfl rfl ?_
 simp (disch := omega) only [go_sem, simprocAttr, hil]
 refine call_ro h0 rfl rfl ?_
 simp (disch := omega) only [go_sem, simprocAttr, List.length_reverse, hl4]
 have ehd : (80 :: 65 :: 67 :: 75 :: 0 :: 0 :: 0 :: 2 :: (litB its.length 4).reverse : Bs) = hdN its.length := rfl
 rw [ehd]
 refine vcW_loop hN (fun q : Nat × Bs × List Nat => ⟨[(0, .ro 5 (its.map itA)), (4, .str q.2.1), (5, .sl 146070 0 q.2.2.length), (25, .ro 5 (its.map itA)), (26, .int .i64 its.length), (27, .int .i64 q.1)], [(146070, .arr 1 (nats q.2.2))]⟩) (fun q => BR its q.1 q.2.1 q.2.2) (fun q => its.length - q.1) (0, hdN its.length, []) (.nil 5 146070 1 rfl (.le (by simp (disch := omega) only [go_sem, simprocAttr, List.length_nil, nats_nil]))) .nil ?_
 rintro ⟨i, o, l⟩ R1 hbr hR1
 simp only at hbr
 obtain ⟨hol, ho12, hll, hlm, hin⟩ := br_len hd hbr
 by_cases hlt : i < its.length
 ·have hxi : its[i]? = some its[i] := List.getElem?_eq_getElem hlt
  generalize its[i] = x at *
  have hxd := hd x (List.mem_of_getElem? hxi)
  have hnth : nth (its.map itA) i = itA x := by simp [nth, List.getD_eq_getElem?_getD, hxi]
  have hck := check_ok x.k x.d (by omega)
  have hR2 : errI its i x ≠ 0 → ∀ h ar, R h (.tup [.str [], .int .i64 (errI its i x)]) ar := fun he h ar => hR.ro ⟨rfl, .inr ⟨i, o, l, x, hbr, hxi, he, rfl⟩⟩
  have hns : sub3 (nats l) 0 i = nats l := by rw [nats_sub, List.drop_zero, List.take_of_length_le (by omega)]
  have hlen2 : (l ++ [o.length]).length = i + 1 := by rw [List.length_append, List.length_singleton]; omega
  unfold objA at hck
  simp (disch := omega) only [go_sem, simprocAttr, hil, hnth, itA, hll]
  refine call_ro hck rfl rfl ?_
  by_cases hc : checkP x.k x.d = 0
  ·obtain ⟨hk1, hk4, hk65⟩ := check_kind hc
   cases hdl : x.dl with
   | false =>
    have he0 : errI its i x = 0 := by simp [errI, hc, hdl]
    have hh := headof_ok x.k.toNat x.d.length (by omega) (by omega)
    rw [show ((x.k.toNat : Nat) : Int) = x.k by omega] at hh
    have hb1 := bytes_pack (hedB x.k.toNat x.d.length)
    have ha1 := allB_pack (hedB x.k.toNat x.d.length)
    have hhl := hedB_len x.k.toNat x.d.length
    simp (disch := omega) only [go_sem, simprocAttr, hc, hdl, hns, nats_cells, nats_app]
    (repeat (first | refine gskip_of ?_ | refine gcskip_of ?_ | refine gopen_of ?_) <;> simp (disch := omega) only [go_sem, simprocAttr, hns, nats_cells, nats_app])
    refine call_ro hh rfl rfl ?_
    simp (disch := omega) only [go_sem, simprocAttr, hb1, ha1]
    refine call_ro' (zwrite_ok x.d (by omega)) rfl ?_
    rintro h' v ar ⟨rfl, t, ht, rfl⟩
    have hzl := zlibT_len t x.d
    have htl := defl_len ht
    refine ⟨rfl, rfl, ?_⟩
    simp (disch := omega) only [go_sem, simprocAttr, hzl]
    exact hR1 (i + 1, _, l ++ [o.length]) _ (by simp only; omega) (.obj i o l x t hbr hxi he0 hdl ht) (.le (by simp (disch := omega) only [go_sem, simprocAttr, hlen2]))
   | true =>
    by_cases hb : 0 ≤ x.bs ∧ x.bs < i
    ·obtain ⟨hb0, hbi⟩ := hb
     have hgy : its[x.bs.toNat]? = some (its.getD x.bs.toNat it0) := by
      rw [List.getD_eq_getElem?_getD, List.getElem?_eq_getElem (by omega)]; rfl
     have hyd := getD_len hd x.bs.toNat
     have hnr : ¬ (x.dl = true ∧ (x.bs < 0 ∨ (i : Int) ≤ x.bs)) := by omega
     have herr : errI its i x = if (its.getD x.bs.toNat it0).k ≠ x.k then 10 else 0 := by unfold errI; rw [if_neg (fun h => h hc), if_neg hnr]; simp only [hdl, true_and]
     have hynth : nth (its.map itA) x.bs.toNat = itA (its.getD x.bs.toNat it0) := by unfold nth; rw [List.getD_eq_getElem?_getD, List.getElem?_map, hgy]; rfl
     have hnl2 : nth (nats (l ++ [o.length])) x.bs.toNat = .int .i64 (l.getD x.bs.toNat 0 : Nat) := by
      rw [nth_nats (by omega), List.getD_eq_getElem?_getD, List.getElem?_append_left (by omega), ← List.getD_eq_getElem?_getD]
     have hlg1 : l.getD x.bs.toNat 0 < o.length := by
      rw [List.getD_eq_getElem?_getD, List.getElem?_eq_getElem (by omega)]
      exact hlm _ (List.getElem_mem _)
     have hyc : (its.getD x.bs.toNat it0).k = x.k → checkP (its.getD x.bs.toNat it0).k (its.getD x.bs.toNat it0).d = 0 := fun e => by
      unfold checkP at hc ⊢
      rw [e]
      split at hc
      ·cases hc
      ·rename_i hnn
       rw [if_neg hnn, if_neg (by omega)]
     have nams := fun d t => BR.nam i o l x d t hbr hxi
     have offs := fun d t => BR.off i o l x d t hbr hxi
     generalize its.getD x.bs.toNat it0 = y at *
     generalize l.getD x.bs.toNat 0 = ly at *
     by_cases hk : y.k = x.k
     ·have he0 : errI its i x = 0 := by rw [herr, if_neg (by simpa using hk)]
      have hyc := hyc hk
      simp (disch := omega) only [go_sem, simprocAttr, hc, hdl, hns, nats_cells, nats_app, hynth, itA, hil]
      (repeat (first | refine gskip_of ?_ | refine gcskip_of ?_ | refine gopen_of ?_) <;> simp (disch := omega) only [go_sem, simprocAttr, hns, nats_cells, nats_app, hynth, itA, hil, hk])
      refine call_ro' (dmake_ok y.d x.d (by omega) (by omega)) rfl ?_
      rintro h' v ar ⟨rfl, d, hdp, rfl⟩
      have hdl2 := hdp.2
      refine ⟨rfl, rfl, ?_⟩
      have hlo : ((o.length : Nat) : Int) - (ly : Int) = ((o.length - ly : Nat) : Int) := by omega
      cases hbn : x.bn with
      | true =>
       have hid := id_ok y.k y.d (by omega)
       unfold idA objA at hid
       rw [if_pos hyc] at hid
       have hun := unhex_ok (sha1 (textP y.k y.d)) (by rw [sha1_len]; decide)
       have hsl := sha1_len (textP y.k y.d)
       have hh := headof_ok 7 d.length (by decide) (by omega)
       rw [show ((7 : Nat) : Int) = 7 from rfl] at hh
       have hb1 := bytes_pack (hedB 7 d.length)
       have ha1 := allB_pack (hedB 7 d.length)
       have hhl := hedB_len 7 d.length
       have nams := nams d
       simp (disch := omega) only [go_sem, simprocAttr, hbn]
       refine call_ro hid rfl rfl ?_
       simp (disch := omega) only [go_sem, simprocAttr]
       refine call_ro hun rfl rfl ?_
       simp (disch := omega) only [go_sem, simprocAttr]
       refine call_ro hh rfl rfl ?_
       simp (disch := omega) only [go_sem, simprocAttr, hb1, ha1, hsl]
       refine call_ro' (zwrite_ok d (by omega)) rfl ?_
       rintro h' v ar ⟨rfl, t, ht, rfl⟩
       have hzl := zlibT_len t d
       have htl := defl_len ht
       refine ⟨rfl, rfl, ?_⟩
       simp (disch := omega) only [go_sem, simprocAttr, hzl, hsl]
       exact hR1 (i + 1, _, l ++ [o.length]) _ (by simp only; omega) (nams t he0 hdl hbn hdp ht) (.le (by simp (disch := omega) only [go_sem, simprocAttr, hlen2]))
      | false =>
       have hh := headof_ok 6 d.length (by decide) (by omega)
       rw [show ((6 : Nat) : Int) = 6 from rfl] at hh
       have hb1 := bytes_pack (hedB 6 d.length)
       have ha1 := allB_pack (hedB 6 d.length)
       have hhl := hedB_len 6 d.length
       have hbk := backof_ok (o.length - ly) (by omega)
       have hb2 := bytes_pack (bakB (o.length - ly))
       have ha2 := allB_pack (bakB (o.length - ly))
       have hbl := bakB_len (o.length - ly)
       have offs := offs d
       simp (disch := omega) only [go_sem, simprocAttr, hbn, hnl2, hlo]
       refine call_ro hh rfl rfl ?_
       simp (disch := omega) only [go_sem, simprocAttr, hb1, ha1]
       refine call_ro hbk rfl rfl ?_
       simp (disch := omega) only [go_sem, simprocAttr, hb2, ha2]
       refine call_ro' (zwrite_ok d (by omega)) rfl ?_
       rintro h' v ar ⟨rfl, t, ht, rfl⟩
       have hzl := zlibT_len t d
       have htl := defl_len ht
       refine ⟨rfl, rfl, ?_⟩
       simp (disch := omega) only [go_sem, simprocAttr, hzl]
       exact hR1 (i + 1, _, l ++ [o.length]) _ (by simp only; omega) (offs t he0 hdl hbn hdp ht) (.le (by simp (disch := omega) only [go_sem, simprocAttr, hlen2]))
     ·have he10 : errI its i x = 10 := by rw [herr, if_pos hk]
      rw [he10] at hR2
      simp (disch := omega) only [go_sem, simprocAttr, hc, hdl, hynth, itA, hil]
      (repeat (first | refine gskip_of ?_ | refine gcskip_of ?_ | refine gopen_of ?_) <;> simp (disch := omega) only [go_sem, simprocAttr, hynth, itA, hil, hk])
      exact hR2 (by decide) _ _
    ·have he1 : errI its i x = 1 := by
      have : x.bs < 0 ∨ (i : Int) ≤ x.bs := by omega
      unfold errI
      rw [if_neg (fun h => h hc), if_pos ⟨hdl, this⟩]
     rw [he1] at hR2
     by_cases hb0 : x.bs < 0
     ·simp (disch := omega) only [go_sem, simprocAttr, hc, hdl]
      (repeat (first | refine gskip_of ?_ | refine gcskip_of ?_ | refine gopen_of ?_) <;> simp (disch := omega) only [go_sem, simprocAttr])
      exact hR2 (by decide) _ _
     ·have hbi : (i : Int) ≤ x.bs := by omega
      simp (disch := omega) only [go_sem, simprocAttr, hc, hdl]
      (repeat (first | refine gskip_of ?_ | refine gcskip_of ?_ | refine gopen_of ?_) <;> simp (disch := omega) only [go_sem, simprocAttr])
      exact hR2 (by decide) _ _
  ·have he : errI its i x = checkP x.k x.d := if_pos hc
   rw [he] at hR2
   simp (disch := omega) only [go_sem, simprocAttr, hc]
   exact hR2 hc _ _
 ·obtain rfl : i = its.length := by omega
  have hs := sum1_ok o (by omega)
  have hsl := sha1_len o
  simp (disch := omega) only [go_sem, simprocAttr]
  refine call_ro hs rfl rfl ?_
  simp (disch := omega) only [go_sem, simprocAttr]
  exact hR.ro ⟨rfl, .inl ⟨o, l, hbr, rfl⟩⟩
end Go.Proofs.YtjoefngnjoofeaaDoor.Pk
namespace Go.Proofs.YtjoefngnjoofeaaDoor.Pk
open Eng Sh
set_option maxRecDepth 10000
end Go.Proofs.YtjoefngnjoofeaaDoor.Pk
namespace Go.Proofs.YtjoefngnjoofeaaDoor.Pk
open Eng
set_option maxRecDepth 10000
theorem enc_head {s : Bs} {q : Nat} {bs : List Bool} (h : Enc s q bs) : ∃ B, bs = lowB 3 3 ++ B := by
 induction h with
 | nil => exact ⟨[], by simp⟩
 | lit q bs h hq ih => obtain ⟨B, rfl⟩ := ih; exact ⟨_, List.append_assoc ..⟩
 | rep q bs n b i j h h1 h2 ih => obtain ⟨B, rfl⟩ := ih; exact ⟨_, List.append_assoc ..⟩
theorem storedT_eq (s : Bs) : storedT s = 1 :: (litB s.length 2 ++ litB (65535 - s.length) 2 ++ s) := by
 have h1 : (alB (lowB 1 3)).length = 8 * 1 := by rw [al_len, low_len]
 have h2 := pack_bytes (alB (lowB 1 3)) (litB s.length 2 ++ litB (65535 - s.length) 2 ++ s) 1 h1
 have h3 := rest_len (litB s.length 2 ++ litB (65535 - s.length) 2 ++ s) 0
 have h4 : packN (alB (lowB 1 3)) 1 = [1] := by decide
 rw [h4] at h2
 unfold storedT textB storedB
 rw [List.length_append, h1, h3, show (8 * 1 + (8 * (litB s.length 2 ++ litB (65535 - s.length) 2 ++ s).length - 0) + 7) / 8 = 1 + (litB s.length 2 ++ litB (65535 - s.length) 2 ++ s).length by omega, h2]
 rfl
theorem two_bytes (t : Bs) (a x : Nat) (h0 : t.getD a 0 = UInt8.ofNat (x % 256)) (h1 : t.getD (a + 1) 0 = UInt8.ofNat (x / 256 % 256)) (hx : x < 65536) : numAt t (8 * a) 16 = x := by
 rw [num_two t (8 * a) 8 8, num_byte, show 8 * a + 8 = 8 * (a + 1) by omega, num_byte, h0, h1, UInt8.toNat_ofNat', UInt8.toNat_ofNat']
 omega
theorem raw_on {s T : Bs} {most : Nat} (hm : s.length ≤ most) (hT : ∀ k, k < s.length → T.getD (5 + k) 0 = s.getD k 0) (hl : 5 + s.length ≤ T.length) : ∀ (m k : Nat), k + m = s.length → rawS T most m ⟨40 + 8 * k, s.take k, 0⟩ = ⟨40 + 8 * s.length, s, 0⟩
 | 0, k, h => by
  obtain rfl : k = s.length := by omega
  rw [List.take_of_length_le (Nat.le_refl _)]
  rfl
 | m + 1, k, h => by
  have htl : (s.take k).length = k := by rw [List.length_take]; omega
  have hnum : numS T 8 ⟨40 + 8 * k, s.take k, 0⟩ = ((s.getD k 0).toNat, ⟨40 + 8 * k + 8, s.take k, 0⟩) := by
   rw [num_ok rfl (by simp only; omega)]
   simp only
   rw [show 40 + 8 * k = 8 * (5 + k) by omega, num_byte, hT k (by omega)]
  have hsn := take_snoc s 0 (show k < s.length by omega)
  rw [rawS]
  simp only [hnum, putS, htl]
  rw [if_neg (by simp), if_neg (by simp), if_neg (by omega), UInt8.ofNat_toNat, ← hsn, show 40 + 8 * k + 8 = 40 + 8 * (k + 1) by omega]
  exact raw_on hm hT hl m (k + 1) (by omega)
theorem defl_back {s t : Bs} {most : Nat} (h : DeflP s t) (hs : s.length ≤ 65535) (hm : s.length ≤ most) (r : Bs) : inflS (t ++ r) most = (s, t.length, 0) := by
 rcases h with ⟨bs, henc, rfl, _⟩ | rfl
 ·obtain ⟨R, hR⟩ := rest_text (bs ++ codeL fixL 256) r
  have htl : (textB (bs ++ codeL fixL 256)).length = ((bs ++ codeL fixL 256).length + 7) / 8 := pack_len _ _
  generalize hT : textB (bs ++ codeL fixL 256) ++ r = T at *
  have hTl : T.length = (textB (bs ++ codeL fixL 256)).length + r.length := by rw [← hT, List.length_append]
  rw [List.append_assoc] at hR
  have hpk := (enc_back hm (Nat.zero_le _) henc _ hR).2
  rw [List.take_of_length_le (Nat.le_refl _), Nat.zero_add, Nat.zero_add] at hpk
  obtain ⟨B, hB⟩ := enc_head henc
  have hR2 : restB T 0 = lowB 3 3 ++ (B ++ (codeL fixL 256 ++ R)) := by rw [hR, hB, List.append_assoc]
  have hn3 := num_on hR2 (Nat.zero_le _) (by decide : 3 < 2 ^ 3)
  have hr3 := rest_room hR2 (Nat.zero_le _)
  rw [low_len] at hr3
  have hn1 : numAt T 0 1 = 1 := by rw [← num_mod T 0 (show 1 ≤ 3 by decide), hn3]
  have hn2 : numAt T 1 2 = 1 := by
   have := num_div T 0 (show 1 ≤ 3 by decide)
   rw [hn3] at this
   exact this.symm
  have hrb := rest_room hR (Nat.zero_le _)
  rw [Nat.zero_add] at hrb
  have hon := rest_on hR
  rw [Nat.zero_add] at hon
  have hsy := symS_on (S := ⟨bs.length, s, 0⟩) (s := 256) fixL_chk fixL_le (by rw [fixL_len]; decide) (fixL_pos _ (by decide)) hon rfl
  have hend : packS T most fixL fixD ⟨bs.length, s, 0⟩ = ⟨bs.length + (codeL fixL 256).length, s, 0⟩ := by
   rw [pack_eq (by simpa using hrb)]
   unfold stepS
   simp only [hsy]
   simp
  have hblk : blockS T most ⟨0, [], 0⟩ = (true, ⟨bs.length + (codeL fixL 256).length, s, 0⟩) := by
   unfold blockS
   simp only [Nat.zero_add]
   rw [if_neg (by omega), hn1, hn2, hpk, hend]
   simp
  have hrun : runS T most ⟨0, [], 0⟩ = ⟨bs.length + (codeL fixL 256).length, s, 0⟩ := by
   rw [run_eq (Nat.zero_le _), hblk, if_pos (.inr rfl)]
  unfold inflS
  rw [hrun]
  simp only
  rw [if_neg (by simp), htl, List.length_append]
 ·have hl := storedT_len s
  have he := storedT_eq s
  have h2 := litB_len s.length 2
  have h3 := litB_len (65535 - s.length) 2
  generalize hT : storedT s ++ r = T at *
  have hTl : T.length = s.length + 5 + r.length := by rw [← hT, List.length_append, hl]
  have get : ∀ k, k < s.length + 5 → T.getD k 0 = (storedT s).getD k 0 := fun k hk => by
   rw [← hT, List.getD_eq_getElem?_getD, List.getElem?_append_left (by omega), ← List.getD_eq_getElem?_getD]
  have l2 : ∀ x : Nat, litB x 2 = [UInt8.ofNat (x % 256), UInt8.ofNat (x / 256 % 256)] := fun x => by simp [litB, List.range_succ]
  rw [l2, l2] at he
  have g0 := get 0 (by omega)
  have g1 := get 1 (by omega)
  have g2 := get 2 (by omega)
  have g3 := get 3 (by omega)
  have g4 := get 4 (by omega)
  have gk : ∀ k, k < s.length → T.getD (5 + k) 0 = s.getD k 0 := fun k hk => by
   rw [get (5 + k) (by omega), he, show 5 + k = k + 4 + 1 by omega]
   simp
  rw [he] at g0 g1 g2 g3 g4
  have n0 : numAt T 0 8 = 1 := by
   have := num_byte T 0
   rw [g0] at this
   exact this
  have hn1 : numAt T 0 1 = 1 := by rw [← num_mod T 0 (show 1 ≤ 8 by decide), n0]
  have hn2 : numAt T 1 2 = 0 := by
   have h3 : numAt T 0 3 = 1 := by rw [← num_mod T 0 (show 3 ≤ 8 by decide), n0]
   have := num_div T 0 (show 1 ≤ 3 by decide)
   rw [h3] at this
   exact this.symm
  have na : numAt T 8 16 = s.length := two_bytes T 1 s.length g1 g2 (by omega)
  have nb : numAt T 24 16 = 65535 - s.length := two_bytes T 3 (65535 - s.length) g3 g4 (by omega)
  have hst : storedS T most ⟨3, [], 0⟩ = ⟨40 + 8 * s.length, s, 0⟩ := by
   unfold storedS upS
   simp only
   rw [num_ok (S := ⟨(3 + 7) / 8 * 8, [], 0⟩) rfl (by simp only; omega)]
   simp only [show (3 + 7) / 8 * 8 = 8 from rfl, na]
   rw [num_ok (S := ⟨8 + 16, [], 0⟩) rfl (by simp only; omega)]
   simp only [show 8 + 16 = 24 from rfl, nb]
   rw [if_neg (by omega)]
   exact raw_on hm gk (by omega) s.length 0 (by omega)
  have hblk : blockS T most ⟨0, [], 0⟩ = (true, ⟨40 + 8 * s.length, s, 0⟩) := by
   unfold blockS
   simp only [Nat.zero_add]
   rw [if_neg (by omega), hn1, hn2, hst]
   simp
  have hrun : runS T most ⟨0, [], 0⟩ = ⟨40 + 8 * s.length, s, 0⟩ := by
   rw [run_eq (Nat.zero_le _), hblk, if_pos (.inr rfl)]
  unfold inflS
  rw [hrun]
  simp only
  rw [if_neg (by simp), hl]
  congr 2
  omega
end Go.Proofs.YtjoefngnjoofeaaDoor.Pk
namespace Go.Proofs.YtjoefngnjoofeaaDoor.Pk
open Eng Sh
set_option maxRecDepth 10000
theorem zlib_back {s t : Bs} {most : Nat} (h : DeflP s t) (hs : s.length ≤ 65535) (hm : s.length ≤ most) (r : Bs) : zlibS (zlibT t s ++ r) most = (s, (zlibT t s).length, 0) := by
 have hl := litB_len (adlV s) 4
 have hz := zlibT_len t s
 have hbk := defl_back h hs hm ((litB (adlV s) 4).reverse ++ r)
 have e : zlibT t s ++ r = 120 :: 1 :: (t ++ ((litB (adlV s) 4).reverse ++ r)) := by simp [zlibT]
 have hd : (120 :: 1 :: (t ++ ((litB (adlV s) 4).reverse ++ r)) : Bs).drop 2 = t ++ ((litB (adlV s) 4).reverse ++ r) := rfl
 have hd2 : (120 :: 1 :: (t ++ ((litB (adlV s) 4).reverse ++ r)) : Bs).drop (2 + t.length) = (litB (adlV s) 4).reverse ++ r := by
  rw [← List.drop_drop, hd, List.drop_left]
 have ht4 : ((litB (adlV s) 4).reverse ++ r).take 4 = (litB (adlV s) 4).reverse := by
  rw [List.take_append_of_le_length (by rw [List.length_reverse, hl]; exact Nat.le_refl _), List.take_of_length_le (by rw [List.length_reverse, hl]; exact Nat.le_refl _)]
 have hbig : bigN (litB (adlV s) 4).reverse = adlV s := (big_four _ (by rw [List.length_reverse, hl]) _ (adlV_lt s)).2 rfl
 unfold zlibS
 rw [e, hd, hbk, if_neg (by simp), if_neg (by show ¬ (headB 120 1 = false); decide)]
 simp only
 rw [if_neg (by simp), if_neg (by simp only [List.length_cons, List.length_append, List.length_reverse, hl]; omega), hd2, ht4, hbig, if_neg (by simp), hz]
theorem head_more (b : Bs) (rest : Bs) : ∀ (k f fuel c m p size sh : Nat), c < 128 → m < 128 ^ k → k + 1 ≤ fuel → k ≤ f → b.drop p = hdB f c m ++ rest →
    headR b fuel p size sh = (size + (c + 128 * m) * 2 ^ sh, p + (hdB f c m).length, 0)
 | k, f, 0, c, m, p, size, sh, _, _, h, _, _ => by omega
 | 0, f, fuel + 1, c, m, p, size, sh, hc, hm, _, _, hb => by
  obtain rfl : m = 0 := by simpa using hm
  have e : hdB f c 0 = [UInt8.ofNat c] := by cases f <;> rfl
  rw [e] at hb ⊢
  have hlt : p < b.length := by
   have := congrArg List.length hb
   rw [List.length_drop, List.length_append, List.length_singleton] at this
   omega
  have hg : b.getD p 0 = UInt8.ofNat c := by
   rw [List.getD_eq_getElem?_getD, ← Nat.add_zero p, ← List.getElem?_drop, hb]; rfl
  have hcc : (UInt8.ofNat c).toNat = c := by rw [UInt8.toNat_ofNat']; omega
  rw [headR, if_neg (by omega), hg, hcc, if_pos hc, Nat.mod_eq_of_lt hc]
  simp
 | k + 1, 0, fuel + 1, c, m, p, size, sh, _, _, _, h, _ => by omega
 | k + 1, f + 1, fuel + 1, c, m, p, size, sh, hc, hm, hf, hk, hb => by
  by_cases h0 : m = 0
  ·have := head_more b rest 0 (f + 1) (fuel + 1) c m p size sh hc (by omega) (by omega) (by omega) hb
   exact this
  ·have e : hdB (f + 1) c m = UInt8.ofNat (c + 128) :: hdB f (m % 128) (m / 128) := by rw [hdB, if_neg h0]
   rw [e] at hb ⊢
   have hlt : p < b.length := by
    have := congrArg List.length hb
    rw [List.length_drop, List.length_append, List.length_cons] at this
    omega
   have hg : b.getD p 0 = UInt8.ofNat (c + 128) := by
    rw [List.getD_eq_getElem?_getD, ← Nat.add_zero p, ← List.getElem?_drop, hb]; rfl
   have hd : b.drop (p + 1) = hdB f (m % 128) (m / 128) ++ rest := by
    rw [← List.drop_drop, hb]; rfl
   have hcc : (UInt8.ofNat (c + 128)).toNat = c + 128 := by rw [UInt8.toNat_ofNat']; omega
   have ih := head_more b rest k f fuel (m % 128) (m / 128) (p + 1) (size + c * 2 ^ sh) (sh + 7) (Nat.mod_lt _ (by decide)) (by rw [Nat.pow_succ] at hm; omega) (by omega) (by omega) hd
   rw [headR, if_neg (by omega), hg, hcc, if_neg (by omega), show (c + 128) % 128 = c by omega, ih]
   have ep : (2 : Nat) ^ (sh + 7) = 128 * 2 ^ sh := by rw [Nat.pow_add]; omega
   have em : m % 128 + 128 * (m / 128) = m := Nat.mod_add_div m 128
   rw [ep, em]
   have e1 : size + c * 2 ^ sh + m * (128 * 2 ^ sh) = size + (c + 128 * m) * 2 ^ sh := by
    rw [Nat.add_mul, ← Nat.mul_assoc, Nat.mul_comm m 128, Nat.add_assoc]
   rw [e1]
   simp only [List.length_cons]
   rw [show p + 1 + (hdB f (m % 128) (m / 128)).length = p + ((hdB f (m % 128) (m / 128)).length + 1) by omega]
theorem head_back (b rest : Bs) (p kind n : Nat) (hk : kind < 8) (hn : n < 16 * 128 ^ 3) (hb : b.drop p = hedB kind n ++ rest) : headP b p = (kind, n, p + (hedB kind n).length, 0) := by
 unfold hedB at hb ⊢
 by_cases h0 : n / 16 = 0
 ·have e : hdB 9 (16 * kind + n % 16) (n / 16) = [UInt8.ofNat (16 * kind + n % 16)] := by rw [h0]; rfl
  rw [e] at hb ⊢
  have hlt : p < b.length := by
   have := congrArg List.length hb
   rw [List.length_drop, List.length_append, List.length_singleton] at this
   omega
  have hg : b.getD p 0 = UInt8.ofNat (16 * kind + n % 16) := by
   rw [List.getD_eq_getElem?_getD, ← Nat.add_zero p, ← List.getElem?_drop, hb]; rfl
  have hcc : (UInt8.ofNat (16 * kind + n % 16)).toNat = 16 * kind + n % 16 := by rw [UInt8.toNat_ofNat']; omega
  unfold headP
  rw [if_neg (by omega), hg, hcc, if_pos (by omega)]
  simp only [List.length_singleton, Prod.mk.injEq, and_true]
  omega
 ·have e : hdB 9 (16 * kind + n % 16) (n / 16) = UInt8.ofNat (16 * kind + n % 16 + 128) :: hdB 8 (n / 16 % 128) (n / 16 / 128) := by rw [hdB, if_neg h0]
  rw [e] at hb ⊢
  have hlt : p < b.length := by
   have := congrArg List.length hb
   rw [List.length_drop, List.length_append, List.length_cons] at this
   omega
  have hg : b.getD p 0 = UInt8.ofNat (16 * kind + n % 16 + 128) := by
   rw [List.getD_eq_getElem?_getD, ← Nat.add_zero p, ← List.getElem?_drop, hb]; rfl
  have hd : b.drop (p + 1) = hdB 8 (n / 16 % 128) (n / 16 / 128) ++ rest := by
   rw [← List.drop_drop, hb]; rfl
  have hcc : (UInt8.ofNat (16 * kind + n % 16 + 128)).toNat = 16 * kind + n % 16 + 128 := by rw [UInt8.toNat_ofNat']; omega
  have hm := head_more b rest 2 8 4 (n / 16 % 128) (n / 16 / 128) (p + 1) (n % 16) 4 (Nat.mod_lt _ (by decide)) (by omega) (by omega) (by omega) hd
  have em : n / 16 % 128 + 128 * (n / 16 / 128) = n / 16 := Nat.mod_add_div _ 128
  rw [em] at hm
  have en : n % 16 + n / 16 * 2 ^ 4 = n := by omega
  rw [en] at hm
  unfold headP
  rw [if_neg (by omega), hg, hcc, if_neg (by omega), show (16 * kind + n % 16 + 128) % 16 = n % 16 by omega, hm, if_neg (by simp)]
  simp only [List.length_cons, Prod.mk.injEq, and_true, true_and]
  omega
theorem entry_obj {b rest d t : Bs} {p k : Nat} (hk1 : 1 ≤ k) (hk4 : k ≤ 4) (hd : d.length ≤ 65000) (ht : DeflP d t) (hb : b.drop p = hedB k d.length ++ (zlibT t d ++ rest)) :
    ∃ crc, readE b p = (⟨p, p + (hedB k d.length).length + (zlibT t d).length, k, d, 0, [], crc⟩, 0) := by
 have hh := head_back b (zlibT t d ++ rest) p k d.length (by omega) (by omega) hb
 have hd2 : b.drop (p + (hedB k d.length).length) = zlibT t d ++ rest := by
  rw [← List.drop_drop, hb, List.drop_left]
 have hz := zlib_back ht (by omega) (Nat.le_refl d.length) rest
 refine ⟨crcT ((b.drop p).take (p + (hedB k d.length).length + (zlibT t d).length - p)), ?_⟩
 unfold readE
 rw [hh]
 simp only
 rw [if_neg (by simp)]
 unfold midE
 rw [if_pos ⟨hk1, hk4⟩]
 unfold endE
 simp only [hd2, hz]
 rw [if_neg (by simp), if_neg (by omega), if_neg (by simp), if_neg (by simp)]
end Go.Proofs.YtjoefngnjoofeaaDoor.Pk
namespace Go.Proofs.YtjoefngnjoofeaaDoor.Pk
open Eng Sh
set_option maxRecDepth 10000
theorem check_no {k : Int} {d : Bs} (hd : d.length ≤ 400) (h : checkP k d ≠ 0) : checkP k d = 10 ∧ (k < 1 ∨ 4 < k) := by
 unfold checkP at h ⊢
 split at h
 ·rename_i hn
  rw [if_pos hn]
  refine ⟨rfl, ?_⟩
  unfold nameP at hn
  by_cases h1 : k = 1
  ·simp [h1] at hn
  by_cases h2 : k = 2
  ·simp [h2] at hn
  by_cases h3 : k = 3
  ·simp [h3] at hn
  by_cases h4 : k = 4
  ·simp [h4] at hn
  omega
 ·rw [if_neg (by omega)] at h
  exact (h rfl).elim
theorem one_built {k : Int} {d : Bs} (hd : d.length ≤ 400) {r : AV} (h : BuiltR [⟨k, d, false, 0, false⟩] r) :
    (checkP k d = 0 ∧ ∃ t, DeflP d t ∧ r = .tup [.str ((hdN 1 ++ (hedB k.toNat d.length ++ zlibT t d)) ++ sha1 (hdN 1 ++ (hedB k.toNat d.length ++ zlibT t d))), .int .i64 0]) ∨ ((k < 1 ∨ 4 < k) ∧ r = .tup [.str [], .int .i64 10]) := by
 have hx0 : ∀ (i : Nat) (x : It), ([⟨k, d, false, 0, false⟩] : List It)[i]? = some x → i = 0 ∧ x = ⟨k, d, false, 0, false⟩ := fun i x hx => by
  cases i with
  | zero => simp at hx; exact ⟨rfl, hx.symm⟩
  | succ i => simp at hx
 have herr : errI [⟨k, d, false, 0, false⟩] 0 ⟨k, d, false, 0, false⟩ = checkP k d := by
  unfold errI
  by_cases hc : checkP k d = 0
  ·rw [if_neg (fun h => h hc), if_neg (by simp), if_neg (by simp), hc]
  ·rw [if_pos hc]
 rcases h with ⟨o, l, hb, rfl⟩ | ⟨i, o, l, x, hb, hx, he, rfl⟩
 ·left
  have hb1 : BR [⟨k, d, false, 0, false⟩] 1 o l := hb
  cases hb1 with
  | obj i o l x t h hx he hdl hp =>
   obtain ⟨_, rfl⟩ := hx0 _ _ hx
   cases h with
   | nil => exact ⟨by rw [← herr]; exact he, t, hp, rfl⟩
  | nam i o l x d' t h hx he hdl hbn hde hp =>
   obtain ⟨_, rfl⟩ := hx0 _ _ hx
   cases hdl
  | off i o l x d' t h hx he hdl hbn hde hp =>
   obtain ⟨_, rfl⟩ := hx0 _ _ hx
   cases hdl
 ·right
  obtain ⟨rfl, rfl⟩ := hx0 _ _ hx
  rw [herr] at he ⊢
  obtain ⟨h1, h2⟩ := check_no hd he
  exact ⟨h2, by rw [h1]⟩
theorem hdN_len (n : Nat) : (hdN n).length = 12 := by
 have := litB_len n 4
 simp [hdN, packHd, this]
set_option maxHeartbeats 4000000 in
theorem packone_ok (k : Int) (d : Bs) (hk : -9223372036854775808 ≤ k ∧ k ≤ 9223372036854775807) (hd : d.length ≤ 140737488351232) : SpecR Tryd.prog 3 [.agg [.int .i64 k, .str d]] (.bool true) := by
 refine Cod.packone_spec (fun E R hN hR => ?_)
 have hf := few_ok d 400 (by omega) (by decide)
 rw [show ((400 : Nat) : Int) = 400 from rfl] at hf
 have hd4 : (d.take 400).length ≤ 400 := by rw [List.length_take]; omega
 simp (disch := omega) only [go_sem, simprocAttr]
 refine call_ro hf rfl rfl ?_
 generalize d.take 400 = d4 at *
 have hbd := pbuild_ok [⟨k, d4, false, 0, false⟩] (show (1 : Nat) ≤ 20 by decide) (fun x hx => by rw [List.mem_singleton.1 hx]; simp only; omega)
 have hit : ([⟨k, d4, false, 0, false⟩] : List It).map itA = [.agg [.int .i64 k, .str d4, .bool false, .int .i64 0, .bool false]] := rfl
 rw [hit] at hbd
 have haw := awake_ok
 simp (disch := omega) only [go_sem, simprocAttr]
 refine call_wk ⟨[(1, .vptr 187001 0), (18, .ro 5 [.agg [.int .i64 k, .str d4, .bool false, .int .i64 0, .bool false]])], [(187001, .var [.int .i64 k, .str d4])]⟩ (.frz 187018 (.le ?_)) rfl ?_
 ·simp (disch := omega) only [go_sem, simprocAttr]
 refine call_ro' hbd rfl ?_
 rintro h' v ar ⟨rfl, hbr⟩
 rcases one_built hd4 hbr with ⟨hc, t, ht, rfl⟩ | ⟨hk14, rfl⟩
 ·obtain ⟨hk1, hk4, _⟩ := check_kind hc
  have hl12 := hdN_len 1
  have hl20 := sha1_len (hdN 1 ++ (hedB k.toNat d4.length ++ zlibT t d4))
  have hhl := hedB_len k.toNat d4.length
  have hzl := zlibT_len t d4
  have htl := defl_len ht
  obtain ⟨crc, hent⟩ := entry_obj (b := hdN 1 ++ (hedB k.toNat d4.length ++ zlibT t d4)) (rest := []) (p := 12) (k := k.toNat) (by omega) (by omega) (by omega) ht (by
   rw [List.append_nil]
   conv => lhs; rw [← hl12]
   exact List.drop_left ..)
  have hol : (hdN 1 ++ (hedB k.toNat d4.length ++ zlibT t d4)).length = 12 + (hedB k.toNat d4.length).length + (zlibT t d4).length := by simp only [List.length_append, hl12]; omega
  rw [← hol] at hent
  generalize hdN 1 ++ (hedB k.toNat d4.length ++ zlibT t d4) = o at *
  have hsl : (o ++ sha1 o).length = o.length + 20 := by rw [List.length_append, hl20]
  have htk : (o ++ sha1 o).take ((o ++ sha1 o).length - 20) = o := by rw [hsl, Nat.add_sub_cancel]; exact List.take_left ..
  have hr1 := pread_ok (o ++ sha1 o) 12 (by omega) (by omega)
  have hr2 := pread_ok (o ++ sha1 o) (o.length : Int) (by omega) (by omega)
  have hr3 := pread_ok (o ++ sha1 o) 11 (by omega) (by omega)
  have p1 : readP (o ++ sha1 o) 12 = (⟨12, o.length, k.toNat, d4, 0, [], crc⟩, 0) := by
   unfold readP
   rw [if_neg (by omega), htk]
   exact hent
  have p2 : readP (o ++ sha1 o) (o.length : Int) = (en0, 6) := by
   unfold readP
   rw [if_neg (by omega), htk, Int.toNat_natCast]
   have : headP o o.length = (0, 0, 0, 6) := if_pos (Nat.le_refl _)
   unfold readE
   rw [this]
   rfl
  have p3 : readP (o ++ sha1 o) 11 = (en0, 1) := by
   unfold readP
   rw [if_pos (.inl (by decide))]
  rw [p1] at hr1
  rw [p2] at hr2
  rw [p3] at hr3
  have hkk : ((k.toNat : Nat) : Int) = k := by omega
  have hn20 : (((o ++ sha1 o).length : Nat) : Int) - 20 = (o.length : Int) := by omega
  generalize o ++ sha1 o = s at *
  refine ⟨rfl, rfl, ?_⟩
  simp (disch := omega) only [go_sem, simprocAttr]
  refine call_ro hr1 rfl rfl ?_
  simp (disch := omega) only [go_sem, simprocAttr, hn20, enL]
  refine call_ro hr2 rfl rfl ?_
  simp (disch := omega) only [go_sem, simprocAttr, enL, en0]
  refine call_ro hr3 rfl rfl ?_
  simp (disch := omega) only [go_sem, simprocAttr, enL, en0]
  refine call_ro haw rfl rfl ?_
  simp (disch := omega) only [go_sem, simprocAttr, hkk, hn20]
  (repeat (first | refine gskip_of ?_ | refine gcskip_of ?_ | refine gopen_of ?_) <;> simp (disch := omega) only [go_sem, simprocAttr, hkk, hn20])
  exact hR.ro ⟨rfl, rfl⟩
 ·refine ⟨rfl, rfl, ?_⟩
  simp (disch := omega) only [go_sem, simprocAttr]
  refine call_ro haw rfl rfl ?_
  by_cases h1 : k < 1
  ·simp (disch := omega) only [go_sem, simprocAttr, h1]
   (repeat (first | refine gskip_of ?_ | refine gcskip_of ?_ | refine gopen_of ?_) <;> simp (disch := omega) only [go_sem, simprocAttr])
   exact hR.ro ⟨rfl, rfl⟩
  ·have h4 : 4 < k := by omega
   simp (disch := omega) only [go_sem, simprocAttr]
   (repeat (first | refine gskip_of ?_ | refine gcskip_of ?_ | refine gopen_of ?_) <;> simp (disch := omega) only [go_sem, simprocAttr])
   exact hR.ro ⟨rfl, rfl⟩
end Go.Proofs.YtjoefngnjoofeaaDoor.Pk
