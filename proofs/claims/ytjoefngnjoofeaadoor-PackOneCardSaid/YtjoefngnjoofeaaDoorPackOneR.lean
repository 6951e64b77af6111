/- The proof, part 18 of 24. -/
import Derived.Test.YtjoefngnjoofeaaDoorPackOneJ
import Derived.Test.YtjoefngnjoofeaaDoorPackOneO
import Derived.Test.YtjoefngnjoofeaaDoorPackOneQ
import Derived.Test.YtjoefngnjoofeaaDoorProg
import Derived.KernelRfl
set_option linter.all false
namespace Go.Proofs.YtjoefngnjoofeaaDoor.Pk
open Eng Sh
set_option maxRecDepth 10000
def poly : W := 3988292384#32
def crcBit (c : W) : W := (c >>> 1) ^^^ (poly &&& -(c &&& 1#32))
def crcIt (c : W) : Nat → W
 | 0 => c
 | i + 1 => crcBit (crcIt c i)
def crcByte (c : W) (b : UInt8) : W := crcIt (c ^^^ BitVec.ofNat 32 b.toNat) 8
def crcF (c : W) (t : Bs) : W := t.foldl crcByte c
def ones : W := 4294967295#32
def crcT (t : Bs) : W := ~~~ (crcF ones t)
def refIt (r B : W) : Nat → W
 | 0 => r
 | i + 1 => if (refIt r B i ^^^ (B >>> i)) &&& 1#32 = 1#32 then (refIt r B i >>> 1) ^^^ poly else refIt r B i >>> 1
theorem and_one (y : W) : y &&& 1#32 = if (y &&& 1#32) = 1#32 then 1#32 else 0#32 := by
 split
 ·assumption
 ·rename_i h
  have h1 : (y &&& 1#32).toNat = y.toNat % 2 := by
   rw [BitVec.toNat_and, show (1#32).toNat = 2 ^ 1 - 1 from rfl, Nat.and_two_pow_sub_one_eq_mod]
  apply BitVec.eq_of_toNat_eq
  rw [h1]
  have h2 : ¬ y.toNat % 2 = 1 := fun h3 => h (BitVec.eq_of_toNat_eq (by rw [h1, h3]; rfl))
  show y.toNat % 2 = 0
  omega
theorem crc_ref (r B : W) : ∀ i, crcIt (r ^^^ B) i = refIt r B i ^^^ (B >>> i)
 | 0 => by simp [crcIt, refIt]
 | i + 1 => by
  have ih := crc_ref r B i
  unfold crcIt refIt crcBit
  rw [ih, and_one]
  have hs : (refIt r B i ^^^ B >>> i) >>> 1 = (refIt r B i >>> 1) ^^^ (B >>> (i + 1)) := by
   rw [BitVec.ushiftRight_xor_distrib, BitVec.shiftRight_add]
  rw [hs]
  by_cases h : (refIt r B i ^^^ B >>> i) &&& 1#32 = 1#32
  ·rw [if_pos h, if_pos rfl]
   have e : poly &&& -1#32 = poly := by decide
   rw [e, BitVec.xor_assoc, BitVec.xor_comm (B >>> (i + 1)), ← BitVec.xor_assoc]
  ·rw [if_neg h, if_neg (by decide)]
   have e : poly &&& -0#32 = 0#32 := by decide
   rw [e, BitVec.xor_zero]
theorem crc_byte (r : W) (b : UInt8) : refIt r (BitVec.ofNat 32 b.toNat) 8 = crcByte r b := by
 have h := crc_ref r (BitVec.ofNat 32 b.toNat) 8
 have e : (BitVec.ofNat 32 b.toNat) >>> 8 = 0#32 := by
  apply BitVec.eq_of_toNat_eq
  have := b.toNat_lt
  rw [BitVec.toNat_ushiftRight, BitVec.toNat_ofNat, Nat.mod_eq_of_lt (by omega), Nat.shiftRight_eq_div_pow]
  show b.toNat / 256 = 0
  omega
 rw [e, BitVec.xor_zero] at h
 exact h.symm
theorem crcF_take (c : W) (t : Bs) {k : Nat} (h : k < t.length) : crcF c (t.take (k + 1)) = crcByte (crcF c (t.take k)) (t.getD k 0) := by
 rw [take_succU t h]; simp [crcF]
theorem wneg (x : W) : IntKind.u32.wrap (0 - (x.toNat : Int)) = ((-x).toNat : Int) := by
 have hx := x.isLt
 show (0 - (x.toNat : Int)) % 4294967296 = _
 rw [BitVec.toNat_neg]
 omega
theorem u8w (b : UInt8) : (b.toNat : Int) = ((BitVec.ofNat 32 b.toNat).toNat : Int) := by
 have := b.toNat_lt
 rw [BitVec.toNat_ofNat, Nat.mod_eq_of_lt (by omega)]
theorem crcw_ok (c : W) (t : Bs) (ht : t.length ≤ 1000000000) : Eng.Spec Tryd.prog 46 [(122003, .var [.int .u32 c.toNat])] [.vptr 122003 0, .str t]
    (fun h' v ar => h' = [(122003, .var [.int .u32 (~~~ (crcF (~~~ c) t)).toNat])] ∧ v = .tup [] ∧ ar = [.vptr 122003 0, .str t]) := by
 refine Cod.crcw_spec (fun E R hN hR => ?_)
 have hnot : ∀ x : W, bits .xor .u32 (if IntKind.u32.signed = true then -1 else IntKind.u32.max) (x.toNat : Int) = ((~~~x).toNat : Int) := fun x => wnot x
 simp (disch := omega) only [go_sem, simprocAttr, hnot]
 refine vcW_loop hN (fun k : Nat => ⟨[(0, .vptr 122003 0), (1, .str t), (4, .int .u32 (crcF (~~~ c) (t.take k)).toNat), (12, .int .i64 t.length), (13, .int .i64 k), (2000000, .vptr 122003 0), (2000001, .str t)], [(122003, .var [.int .u32 c.toNat])]⟩) (fun k => k ≤ t.length) (fun k => t.length - k) 0 (.le (by simp (disch := omega) only [go_sem, simprocAttr]; simp [crcF])) (by omega) ?_
 rintro k R1 hk hR1
 by_cases hlt : k < t.length
 ·have hct := crcF_take (~~~ c) t hlt
  generalize crcF (~~~ c) (t.take k) = x at *
  have hb := u8w (t.getD k 0)
  have hx := wxor x (BitVec.ofNat 32 (t.getD k 0).toNat)
  rw [← hb] at hx
  have hbl := (t.getD k 0).toNat_lt
  simp (disch := omega) only [go_sem, simprocAttr, hx]
  refine vcW_loop hN (fun i : Nat => ⟨[(0, .vptr 122003 0), (1, .str t), (4, .int .u32 (crcIt (x ^^^ BitVec.ofNat 32 (t.getD k 0).toNat) i).toNat), (12, .int .i64 t.length), (13, .int .i64 k), (22, .int .i64 i), (2000000, .vptr 122003 0), (2000001, .str t)], [(122003, .var [.int .u32 c.toNat])]⟩) (fun i => i ≤ 8) (fun i => 8 - i) 0 (.le (by simp (disch := omega) only [go_sem, simprocAttr, crcIt])) (by omega) ?_
  rintro i R2 hi hR2
  by_cases hlt8 : i < 8
  ·have hst : crcIt (x ^^^ BitVec.ofNat 32 (t.getD k 0).toNat) (i + 1) = crcBit (crcIt (x ^^^ BitVec.ofNat 32 (t.getD k 0).toNat) i) := rfl
   generalize crcIt (x ^^^ BitVec.ofNat 32 (t.getD k 0).toNat) i = y at *
   have e1 : (y.toNat : Int).fdiv (2 ^ min 1 32) = (y >>> 1).toNat := wshr y 1
   have e2 : bits .and .u32 y.toNat 1 = (y &&& 1#32).toNat := wand y 1#32
   have e3 := wneg (y &&& 1#32)
   have e4 : bits .and .u32 3988292384 (-(y &&& 1#32)).toNat = (poly &&& -(y &&& 1#32)).toNat := wand poly _
   have e5 := wxor (y >>> 1) (poly &&& -(y &&& 1#32))
   simp (disch := omega) only [go_sem, simprocAttr, e1, e2, e3, e4, e5]
   exact hR2 (i + 1) _ (by omega) (by omega) (.le (by simp (disch := omega) only [go_sem, simprocAttr, hst, crcBit]))
  ·obtain rfl : i = 8 := by omega
   simp (disch := omega) only [go_sem, simprocAttr]
   exact hR1 (k + 1) _ (by omega) (by omega) (.le (by simp (disch := omega) only [go_sem, simprocAttr, hct, crcByte]))
 ·obtain rfl : k = t.length := by omega
  rw [List.take_of_length_le (Nat.le_refl _)]
  simp (disch := omega) only [go_sem, simprocAttr, hnot]
  exact hR.le (by simp (disch := omega) only [go_sem, simprocAttr]) ⟨rfl, rfl, rfl⟩
theorem crcs_bor (c : W) : Eng.Spec Tryd.prog 47 [(122003, .var [.int .u32 c.toNat])] [.vptr 122003 0] (fun h' v ar => h' = [(122003, .var [.int .u32 c.toNat])] ∧ v = .int .u32 c.toNat ∧ ar = [.vptr 122003 0]) := by
 refine Cod.crcs_spec (fun E R hN hR => ?_)
 simp (disch := omega) only [go_sem, simprocAttr]
 exact hR.le (by simp (disch := omega) only [go_sem, simprocAttr]) ⟨rfl, rfl, rfl⟩
theorem crc32_ok (t : Bs) (ht : t.length ≤ 1000000000) : SpecR Tryd.prog 28 [.str t] (.int .u32 (crcT t).toNat) := by
 refine Cod.crc32_spec (fun E R hN hR => ?_)
 have hw := crcw_ok 0#32 t ht
 rw [show ~~~ (0#32 : W) = ones by decide, show ~~~ (crcF ones t) = crcT t from rfl] at hw
 have hs := crcs_bor (crcT t)
 simp (disch := omega) only [go_sem, simprocAttr]
 refine call_win [(122003, .var [.int .u32 (0#32).toNat])] hw (by simp (disch := omega) only [go_sem, simprocAttr]) nofun ?_
 rintro h' v ar ⟨rfl, rfl, rfl⟩
 refine ⟨by simp (disch := omega) only [go_sem, simprocAttr], rfl, ?_⟩
 simp (disch := omega) only [go_sem, simprocAttr]
 refine call_win [(122003, .var [.int .u32 (crcT t).toNat])] hs (by simp (disch := omega) only [go_sem, simprocAttr]) nofun ?_
 rintro h' v ar ⟨rfl, rfl, rfl⟩
 refine ⟨by simp (disch := omega) only [go_sem, simprocAttr], rfl, ?_⟩
 simp (disch := omega) only [go_sem, simprocAttr]
 exact hR.ro ⟨rfl, rfl⟩
end Go.Proofs.YtjoefngnjoofeaaDoor.Pk
namespace Go.Proofs.YtjoefngnjoofeaaDoor.Pk
open Eng Sh
set_option maxRecDepth 10000
def adlF (p : Nat × Nat) (c : UInt8) : Nat × Nat := ((p.1 + c.toNat) % 65521, (p.2 + (p.1 + c.toNat) % 65521) % 65521)
def adlS (t : Bs) : Nat × Nat := t.foldl adlF (1, 0)
def adlV (t : Bs) : Nat := 65536 * (adlS t).2 + (adlS t).1
theorem adlS_take (t : Bs) {k : Nat} (h : k < t.length) : adlS (t.take (k + 1)) = adlF (adlS (t.take k)) (t.getD k 0) := by
 rw [take_succU t h]; simp [adlS]
theorem adlF_lt (p : Nat × Nat) (c : UInt8) : (adlF p c).1 < 65521 ∧ (adlF p c).2 < 65521 := ⟨Nat.mod_lt _ (by decide), Nat.mod_lt _ (by decide)⟩
theorem adlS_lt (t : Bs) : (adlS t).1 < 65521 ∧ (adlS t).2 < 65521 := by
 have : ∀ k, k ≤ t.length → (adlS (t.take k)).1 < 65521 ∧ (adlS (t.take k)).2 < 65521 := by
  intro k
  cases k with
  | zero => intro _; rw [List.take_zero]; decide
  | succ k => intro h; rw [adlS_take t h]; exact adlF_lt _ _
 have h := this t.length (Nat.le_refl _)
 rwa [List.take_of_length_le (Nat.le_refl _)] at h
theorem adlV_lt (t : Bs) : adlV t < 4294967296 := by
 have := adlS_lt t
 unfold adlV; omega
def less1 (a : Nat) : Nat := (a + 65520) % 65521
theorem adlw_ok (t : Bs) (ht : t.length ≤ 1000000000) : Eng.Spec Tryd.prog 69 [(125003, .var [.int .u32 0, .int .u32 0])] [.vptr 125003 0, .str t]
    (fun h' v ar => h' = [(125003, .var [.int .u32 (less1 (adlS t).1 : Nat), .int .u32 ((adlS t).2 : Nat)])] ∧ v = .tup [] ∧ ar = [.vptr 125003 0, .str t]) := by
 refine Cod.adlw_spec (fun E R hN hR => ?_)
 simp (disch := omega) only [go_sem, simprocAttr]
 refine vcW_loop hN (fun k : Nat => ⟨[(0, .vptr 125003 0), (1, .str t), (6, .int .i64 t.length), (7, .int .i64 k), (2000000, .vptr 125003 0), (2000001, .str t)], [(125003, .var [.int .u32 (less1 (adlS (t.take k)).1 : Nat), .int .u32 ((adlS (t.take k)).2 : Nat)])]⟩) (fun k => k ≤ t.length) (fun k => t.length - k) 0 (.le (by simp (disch := omega) only [go_sem, simprocAttr]; simp [adlS, less1])) (by omega) ?_
 rintro k R1 hk hR1
 by_cases hlt : k < t.length
 ·have hct := adlS_take t hlt
  have hxl := adlS_lt (t.take k)
  generalize adlS (t.take k) = x at *
  have hbl := (t.getD k 0).toNat_lt
  obtain ⟨xa, xb⟩ := x
  simp only at hxl
  have hc1 : (adlS (t.take (k + 1))).1 = (xa + (t.getD k 0).toNat) % 65521 := by rw [hct]; rfl
  have hc2 : (adlS (t.take (k + 1))).2 = (xb + (xa + (t.getD k 0).toNat) % 65521) % 65521 := by rw [hct]; rfl
  generalize hb : (t.getD k 0).toNat = b at *
  have l1 : less1 xa < 65521 := Nat.mod_lt _ (by decide)
  have e2 : (((less1 xa : Nat) : Int) + (b : Int)).tmod 65521 = ((less1 ((xa + b) % 65521) : Nat) : Int) := by
   rw [tmod_pos (by omega)]
   unfold less1
   omega
  have e3 : (((xb : Nat) : Int) + ((less1 ((xa + b) % 65521) : Nat) : Int) + 1).tmod 65521 = (((xb + (xa + b) % 65521) % 65521 : Nat) : Int) := by
   rw [tmod_pos (by omega)]
   unfold less1
   omega
  have l2 : less1 ((xa + b) % 65521) < 65521 := Nat.mod_lt _ (by decide)
  simp (disch := omega) only [go_sem, simprocAttr, hb, e2, e3]
  exact hR1 (k + 1) _ (by omega) (by omega) (.le (by simp (disch := omega) only [go_sem, simprocAttr, hc1, hc2]))
 ·obtain rfl : k = t.length := by omega
  rw [List.take_of_length_le (Nat.le_refl _)]
  simp (disch := omega) only [go_sem, simprocAttr]
  exact hR.le (by simp (disch := omega) only [go_sem, simprocAttr]) ⟨rfl, rfl, rfl⟩
theorem or_16 {a b : Nat} (ha : a < 65536) (hb : b < 65536) : bits .or .u32 (IntKind.u32.wrap ((b : Int) * 2 ^ min 16 32)) (a : Int) = ((65536 * b + a : Nat) : Int) := by
 have h1 : ((b : Int) * 2 ^ min 16 32) = ((b * 65536 : Nat) : Int) := by
  rw [show ((2 : Int) ^ min 16 32) = 65536 by decide]; omega
 rw [h1, wrap_u32 (by omega)]
 show IntKind.u32.wrap ((BitVec.ofInt 32 ((b * 65536 : Nat) : Int) ||| BitVec.ofInt 32 (a : Int)).toNat : Int) = _
 rw [BitVec.ofInt_natCast, BitVec.ofInt_natCast, BitVec.toNat_or, BitVec.toNat_ofNat, BitVec.toNat_ofNat, Nat.mod_eq_of_lt (by omega), Nat.mod_eq_of_lt (by omega)]
 have h2 : b * 65536 ||| a = 65536 * b + a := by
  have h3 := Nat.shiftLeft_add_eq_or_of_lt (b := a) (i := 16) (by omega) b
  rw [Nat.shiftLeft_eq, show (2 : Nat) ^ 16 = 65536 by decide] at h3
  omega
 rw [h2]
 exact wrap_u32 (by omega)
theorem adls_ok (t : Bs) : Eng.Spec Tryd.prog 70 [(125003, .var [.int .u32 (less1 (adlS t).1 : Nat), .int .u32 ((adlS t).2 : Nat)])] [.vptr 125003 0]
    (fun h' v ar => h' = [(125003, .var [.int .u32 (less1 (adlS t).1 : Nat), .int .u32 ((adlS t).2 : Nat)])] ∧ v = .int .u32 (adlV t : Nat) ∧ ar = [.vptr 125003 0]) := by
 refine Cod.adls_spec (fun E R hN hR => ?_)
 have hl := adlS_lt t
 unfold adlV at hR
 generalize adlS t = x at *
 obtain ⟨xa, xb⟩ := x
 simp only at hl hR ⊢
 have l1 : less1 xa < 65521 := Nat.mod_lt _ (by decide)
 have e1 : (((less1 xa : Nat) : Int) + 1).tmod 65521 = ((xa : Nat) : Int) := by
  rw [tmod_pos (by omega)]
  unfold less1
  omega
 have e2 := or_16 (a := xa) (b := xb) (by omega) (by omega)
 simp (disch := omega) only [go_sem, simprocAttr, e1, e2]
 exact hR.le (by simp (disch := omega) only [go_sem, simprocAttr]) ⟨rfl, rfl, rfl⟩
theorem adler_ok (t : Bs) (ht : t.length ≤ 1000000000) : SpecR Tryd.prog 45 [.str t] (.int .u32 (adlV t : Nat)) := by
 refine Cod.adler_spec (fun E R hN hR => ?_)
 have hw := adlw_ok t ht
 have hs := adls_ok t
 simp (disch := omega) only [go_sem, simprocAttr]
 refine call_win [(125003, .var [.int .u32 0, .int .u32 0])] hw (by simp (disch := omega) only [go_sem, simprocAttr]) nofun ?_
 rintro h' v ar ⟨rfl, rfl, rfl⟩
 refine ⟨by simp (disch := omega) only [go_sem, simprocAttr], rfl, ?_⟩
 simp (disch := omega) only [go_sem, simprocAttr]
 refine call_win [(125003, .var [.int .u32 (less1 (adlS t).1 : Nat), .int .u32 ((adlS t).2 : Nat)])] hs (by simp (disch := omega) only [go_sem, simprocAttr]) nofun ?_
 rintro h' v ar ⟨rfl, rfl, rfl⟩
 refine ⟨by simp (disch := omega) only [go_sem, simprocAttr], rfl, ?_⟩
 simp (disch := omega) only [go_sem, simprocAttr]
 exact hR.ro ⟨rfl, rfl⟩
end Go.Proofs.YtjoefngnjoofeaaDoor.Pk
namespace Go.Proofs.YtjoefngnjoofeaaDoor.Pk
open Eng Sh
set_option maxRecDepth 10000
def bigN (t : Bs) : Nat := t.foldl (fun x c => 256 * x + c.toNat) 0
theorem bigN_take (t : Bs) {k : Nat} (h : k < t.length) : bigN (t.take (k + 1)) = 256 * bigN (t.take k) + (t.getD k 0).toNat := by
 rw [take_succU t h]; simp [bigN]
theorem bigN_lt (t : Bs) : ∀ k, k ≤ t.length → bigN (t.take k) < 256 ^ k
 | 0, _ => by rw [List.take_zero]; decide
 | k + 1, h => by
  have ih := bigN_lt t k (by omega)
  have hb := (t.getD k 0).toNat_lt
  rw [bigN_take t h, Nat.pow_succ]
  omega
theorem bigN_7 (t : Bs) {k : Nat} (h : k ≤ t.length) (h7 : t.length ≤ 6) : bigN (t.take k) < 281474976710656 := by
 have h1 := bigN_lt t k h
 have h2 : 256 ^ k ≤ 256 ^ 6 := Nat.pow_le_pow_right (by decide) (by omega)
 exact Nat.lt_of_lt_of_le h1 h2
theorem or_8 {x b : Nat} (hx : x < 281474976710656) (hb : b < 256) : bits .or .u64 (IntKind.u64.wrap ((x : Int) * 2 ^ min 8 64)) (b : Int) = ((256 * x + b : Nat) : Int) := by
 have h1 : ((x : Int) * 2 ^ min 8 64) = ((x * 256 : Nat) : Int) := by
  rw [show ((2 : Int) ^ min 8 64) = 256 by decide]; omega
 rw [h1, wrap_u64 (by omega)]
 show IntKind.u64.wrap ((BitVec.ofInt 64 ((x * 256 : Nat) : Int) ||| BitVec.ofInt 64 (b : Int)).toNat : Int) = _
 rw [BitVec.ofInt_natCast, BitVec.ofInt_natCast, BitVec.toNat_or, BitVec.toNat_ofNat, BitVec.toNat_ofNat, Nat.mod_eq_of_lt (by omega), Nat.mod_eq_of_lt (by omega)]
 have h2 : x * 256 ||| b = 256 * x + b := by
  have h3 := Nat.shiftLeft_add_eq_or_of_lt (b := b) (i := 8) (by omega) x
  rw [Nat.shiftLeft_eq, show (2 : Nat) ^ 8 = 256 by decide] at h3
  omega
 rw [h2]
 exact wrap_u64 (by omega)
theorem or_8i {x b : Nat} (hx : x < 281474976710656) (hb : b < 256) : bits .or .i64 (IntKind.i64.wrap ((x : Int) * 2 ^ min 8 64)) (b : Int) = ((256 * x + b : Nat) : Int) := by
 have h1 : ((x : Int) * 2 ^ min 8 64) = ((x * 256 : Nat) : Int) := by
  rw [show ((2 : Int) ^ min 8 64) = 256 by decide]; omega
 rw [h1, wrap_id (by omega)]
 show IntKind.i64.wrap ((BitVec.ofInt 64 ((x * 256 : Nat) : Int) ||| BitVec.ofInt 64 (b : Int)).toNat : Int) = _
 rw [BitVec.ofInt_natCast, BitVec.ofInt_natCast, BitVec.toNat_or, BitVec.toNat_ofNat, BitVec.toNat_ofNat, Nat.mod_eq_of_lt (by omega), Nat.mod_eq_of_lt (by omega)]
 have h2 : x * 256 ||| b = 256 * x + b := by
  have h3 := Nat.shiftLeft_add_eq_or_of_lt (b := b) (i := 8) (by omega) x
  rw [Nat.shiftLeft_eq, show (2 : Nat) ^ 8 = 256 by decide] at h3
  omega
 rw [h2]
 exact wrap_id (by omega)
theorem frombig_ok (t : Bs) (ht : t.length ≤ 6) : SpecR Tryd.prog 31 [.str t] (.int .u64 (bigN t : Nat)) := by
 refine Cod.frombig_spec (fun E R hN hR => ?_)
 simp (disch := omega) only [go_sem, simprocAttr]
 refine vcW_loop hN (fun k : Nat => ⟨[(0, .str t), (3, .int .u64 (bigN (t.take k) : Nat)), (6, .int .i64 t.length), (7, .int .i64 k)], []⟩) (fun k => k ≤ t.length) (fun k => t.length - k) 0 (.le (by simp (disch := omega) only [go_sem, simprocAttr]; simp [bigN])) (by omega) ?_
 rintro k R1 hk hR1
 by_cases hlt : k < t.length
 ·have hct := bigN_take t hlt
  have hxl := bigN_7 t hk ht
  have hbl := (t.getD k 0).toNat_lt
  have ho := or_8 hxl hbl
  generalize bigN (t.take k) = x at *
  simp (disch := omega) only [go_sem, simprocAttr, ho]
  exact hR1 (k + 1) _ (by omega) (by omega) (.le (by simp (disch := omega) only [go_sem, simprocAttr, hct]))
 ·obtain rfl : k = t.length := by omega
  rw [List.take_of_length_le (Nat.le_refl _)]
  simp (disch := omega) only [go_sem, simprocAttr]
  exact hR.ro ⟨rfl, rfl⟩
def litB (x n : Nat) : Bs := (List.range n).map fun i => UInt8.ofNat (x / 256 ^ i % 256)
theorem litB_len (x n : Nat) : (litB x n).length = n := by simp [litB]
theorem litB_succ (x n : Nat) : litB x (n + 1) = litB x n ++ [UInt8.ofNat (x / 256 ^ n % 256)] := by simp [litB, List.range_succ]
theorem rev_get (t : Bs) {k : Nat} (h : k < t.length) : t.reverse.take (k + 1) = t.reverse.take k ++ [t.getD (t.length - 1 - k) 0] := by
 rw [take_succU t.reverse (by simpa using h), List.getD_eq_getElem?_getD, List.getElem?_reverse h, List.getD_eq_getElem?_getD]
theorem big_four (u : Bs) (hu : u.length = 4) (v : Nat) (hv : v < 4294967296) : bigN u = v ↔ u = (litB v 4).reverse := by
 obtain ⟨a, b, c, d, rfl⟩ : ∃ a b c d, u = [a, b, c, d] := by
  match u, hu with
  | [a, b, c, d], _ => exact ⟨a, b, c, d, rfl⟩
 have ha := a.toNat_lt
 have hb := b.toNat_lt
 have hc := c.toNat_lt
 have hd := d.toNat_lt
 have e1 : bigN [a, b, c, d] = 256 * (256 * (256 * a.toNat + b.toNat) + c.toNat) + d.toNat := by simp [bigN]
 have e2 : (litB v 4).reverse = [UInt8.ofNat (v / 16777216 % 256), UInt8.ofNat (v / 65536 % 256), UInt8.ofNat (v / 256 % 256), UInt8.ofNat (v % 256)] := by simp [litB, List.range_succ]
 rw [e1, e2]
 constructor
 ·intro h
  have f : ∀ (x : UInt8) (n : Nat), x.toNat = n → x = UInt8.ofNat n := fun x n h => by rw [← h, UInt8.ofNat_toNat]
  rw [f a _ (show a.toNat = v / 16777216 % 256 by omega), f b _ (show b.toNat = v / 65536 % 256 by omega), f c _ (show c.toNat = v / 256 % 256 by omega), f d _ (show d.toNat = v % 256 by omega)]
 ·intro h
  simp only [List.cons.injEq, and_true] at h
  obtain ⟨rfl, rfl, rfl, rfl⟩ := h
  simp only [UInt8.toNat_ofNat']
  omega
def headB (a b : Nat) : Bool := decide (a % 16 = 8) && (decide (a / 16 ≤ 7) && (decide ((256 * a + b) % 31 = 0) && decide (b / 32 % 2 = 0)))
theorem and_32 {b : Nat} (h : b < 256) : bits .and .u8 (b : Int) 32 = ((b / 32 % 2 * 32 : Nat) : Int) := by
 have : ∀ b : Nat, b < 256 → bits .and .u8 (b : Int) 32 = ((b / 32 % 2 * 32 : Nat) : Int) := by decide +kernel
 exact this b h
theorem zhead_ok (a b : UInt8) : SpecR Tryd.prog 43 [.int .u8 a.toNat, .int .u8 b.toNat] (.bool (headB a.toNat b.toNat)) := by
 refine Cod.zhead_spec (fun E R hN hR => ?_)
 have ha := a.toNat_lt
 have hb := b.toNat_lt
 have e1 := u8_lo a
 have e2 := u8_hi a
 have e3 := or_8i (x := a.toNat) (b := b.toNat) (by omega) hb
 have e4 : ((256 * a.toNat + b.toNat : Nat) : Int).tmod 31 = (((256 * a.toNat + b.toNat) % 31 : Nat) : Int) := by rw [tmod_pos (by omega)]; omega
 have e5 := and_32 hb
 unfold headB at hR
 generalize a.toNat = x at *
 generalize b.toNat = y at *
 by_cases h1 : x % 16 = 8
 ·by_cases h2 : x / 16 ≤ 7
  ·by_cases h3 : (256 * x + y) % 31 = 0
   ·by_cases h4 : y / 32 % 2 = 0
    ·rw [decide_eq_true h1, decide_eq_true h2, decide_eq_true h3, decide_eq_true h4] at hR
     rw [h1] at e1
     rw [h3] at e4
     rw [h4] at e5
     simp (disch := omega) only [go_sem, simprocAttr, e1, e2, e3, e4, e5]
     (repeat (first | refine gskip_of ?_ | refine gcskip_of ?_ | refine gopen_of ?_) <;> simp (disch := omega) only [go_sem, simprocAttr, e1, e2, e3, e4, e5])
     exact hR.ro ⟨rfl, rfl⟩
    ·rw [decide_eq_true h1, decide_eq_true h2, decide_eq_true h3, decide_eq_false h4] at hR
     rw [h1] at e1
     rw [h3] at e4
     rw [show y / 32 % 2 = 1 by omega] at e5
     simp (disch := omega) only [go_sem, simprocAttr, e1, e2, e3, e4, e5]
     (repeat (first | refine gskip_of ?_ | refine gcskip_of ?_ | refine gopen_of ?_) <;> simp (disch := omega) only [go_sem, simprocAttr, e1, e2, e3, e4, e5])
     exact hR.ro ⟨rfl, rfl⟩
   ·rw [decide_eq_true h1, decide_eq_true h2, decide_eq_false h3] at hR
    rw [h1] at e1
    have hi : ¬ (((256 * x + y) % 31 : Nat) : Int) = 0 := by omega
    simp (disch := omega) only [go_sem, simprocAttr, e1, e2, e3, e4, hi]
    (repeat (first | refine gskip_of ?_ | refine gcskip_of ?_ | refine gopen_of ?_) <;> simp (disch := omega) only [go_sem, simprocAttr, e1, e2, e3, e4, hi])
    exact hR.ro ⟨rfl, rfl⟩
  ·rw [decide_eq_true h1, decide_eq_false h2] at hR
   rw [h1] at e1
   have hi : ¬ ((x / 16 : Nat) : Int) ≤ 7 := by omega
   simp (disch := omega) only [go_sem, simprocAttr, e1, e2, hi]
   (repeat (first | refine gskip_of ?_ | refine gcskip_of ?_ | refine gopen_of ?_) <;> simp (disch := omega) only [go_sem, simprocAttr, e1, e2, hi])
   exact hR.ro ⟨rfl, rfl⟩
 ·rw [decide_eq_false h1] at hR
  have hi : ¬ ((x % 16 : Nat) : Int) = 8 := by omega
  simp (disch := omega) only [go_sem, simprocAttr, e1, hi]
  (repeat (first | refine gskip_of ?_ | refine gcskip_of ?_ | refine gopen_of ?_) <;> simp (disch := omega) only [go_sem, simprocAttr, e1, hi])
  exact hR.ro ⟨rfl, rfl⟩
end Go.Proofs.YtjoefngnjoofeaaDoor.Pk
namespace Go.Proofs.YtjoefngnjoofeaaDoor.Pk
open Eng
set_option maxRecDepth 10000
theorem rk_inj (l : List Nat) {s t : Nat} (hs : s < l.length) (ht : t < l.length) (he : l.getD s 0 = l.getD t 0) (hr : rkL l s = rkL l t) : s = t := by
 have key : ∀ {s t : Nat}, s < l.length → t < l.length → l.getD s 0 = l.getD t 0 → s < t → rkL l s < rkL l t := by
  intro s t hs ht he hlt
  unfold rkL
  rw [← he]
  have h1 := cnt_take_le (l.take t) (s + 1) (l.getD s 0)
  rw [List.take_take, Nat.min_eq_left (by omega), take_snoc l 0 hs, cnt_snoc, if_pos rfl] at h1
  omega
 rcases Nat.lt_trichotomy s t with h | h | h
 ·have := key hs ht he h; omega
 ·exact h
 ·have := key ht hs he.symm h; omega
def halfL (l : List Nat) (m : Nat) : Nat := if m = 0 then 0 else fstL l m + cntL l m
theorem half_two (l : List Nat) (m : Nat) : fstL l (m + 1) = 2 * halfL l m := by
 cases m with
 | zero => rfl
 | succ m => simp [halfL, fstL]
theorem hcode_ok (l : List Nat) (hl : ∀ n ∈ l, n ≤ 15) (hll : l.length ≤ 320) (hck : chkL l = true) (s : Nat) (hs : s < l.length) (h1 : 1 ≤ l.getD s 0) :
    SpecR Tryd.prog 54 [tblA l, .int .i64 s] (.tup [.int .u32 (cwL l s : Nat), .int .i64 (l.getD s 0 : Nat)]) := by
 have hc : totL l ≤ 32768 := by unfold chkL at hck; simp at hck; exact hck.1
 refine Cod.hcode_spec (fun E R hN hR => ?_)
 have h15 := len15 hl s
 have hsl := sort_len l 15
 have htl := tbl_len l
 have hts := tbl_srt l
 have hnl := nats_len (sortL l 15)
 have hnl0 := nats_len l
 have hns := nth_nats hs
 have hsub := tbl_sub l
 have hcl := cnts_len l
 have ht0 : (tblC l).getD 0 .undef = .ro 1 (nats l) := rfl
 generalize hL : l.getD s 0 = L at *
 have hrk := rk_lt l hs
 rw [hL] at hrk
 have hne : ¬ ((L : Int) = 0) := by omega
 simp (disch := omega) only [go_sem, simprocAttr, tblA, htl, hts, ht0, hnl, hnl0, hns, hne]
 (repeat (first | refine gskip_of ?_ | refine gcskip_of ?_ | refine gopen_of ?_) <;> simp (disch := omega) only [go_sem, simprocAttr])
 refine vcW_loop hN (fun m : Nat => ⟨[(0, .elt (.agg (tblC l))), (1, .int .i64 s), (6, .int .u32 (halfL l m : Nat)), (7, .int .i64 (preL l (m + 1) : Nat)), (8, .int .i64 ((m : Int) + 1)), (2000000, .elt (.agg (tblC l))), (2000001, .int .i64 s)], []⟩)
  (fun m => m < L) (fun m => L - m) 0 (.le (by simp (disch := omega) only [go_sem, simprocAttr, halfL, preL])) (by omega) ?_
 rintro m R1 hm hR1
 have hf := half_two l m
 have hkr := kraft hc (n := m + 1) (by omega) (by omega)
 have hk2 : 2 ^ (m + 1) ≤ 2 ^ 15 := Nat.pow_le_pow_right (by decide) (by omega)
 have hcg := cnts_get l (n := m + 1) (by omega)
 have ecast : ((m : Int) + 1).toNat = m + 1 := by omega
 have hsh : IntKind.u32.wrap (((halfL l m : Nat) : Int) * 2 ^ min 1 32) = ((fstL l (m + 1) : Nat) : Int) := by
  rw [hf]
  show (((halfL l m : Nat) : Int) * 2) % 4294967296 = _
  omega
 simp (disch := omega) only [go_sem, simprocAttr, htl, hsub, hcl, ecast, hcg]
 rw [hsh]
 generalize hF : fstL l (m + 1) = F at *
 generalize hC : cntL l (m + 1) = C at *
 refine vcW_loop hN (fun k : Nat => ⟨[(0, .elt (.agg (tblC l))), (1, .int .i64 s), (6, .int .u32 ((F + k : Nat) : Int)), (7, .int .i64 ((preL l (m + 1) + k : Nat) : Int)), (8, .int .i64 ((m : Int) + 1)), (41, .int .i64 C), (42, .int .i64 k), (2000000, .elt (.agg (tblC l))), (2000001, .int .i64 s)], []⟩)
  (fun k => k ≤ C ∧ (m + 1 = L → k ≤ rkL l s)) (fun k => C - k) 0 (.le (by simp (disch := omega) only [go_sem, simprocAttr])) ⟨by omega, fun _ => by omega⟩ ?_
 rintro k R2 ⟨hk, hk1⟩ hR2
 have hp15 : preL l (m + 1) + C ≤ (sortL l 15).length := by
  rw [hsl, ← hC]
  have := pre_mono l (m + 2) (14 - m)
  rw [show m + 2 + (14 - m) = 16 by omega] at this
  exact this
 have hp16 : (sortL l 15).length ≤ 320 := by rw [hsl, pre_num l hl]; exact Nat.le_trans List.countP_le_length hll
 by_cases hlt : k < C
 ·obtain ⟨s', g1, g2, g3, g4⟩ := sort_get l (N := 15) (n := m + 1) (k := k) (by omega) (by omega) (by omega)
  have hnth := nth_nats (xs := sortL l 15) (i := preL l (m + 1) + k) (by omega)
  rw [g1] at hnth
  have ei : ((preL l (m + 1) : Int) + (k : Int)).toNat = preL l (m + 1) + k := by omega
  simp (disch := omega) only [go_sem, simprocAttr, htl, hts, hnl, ei, hnth]
  by_cases hss : s' = s
  ·subst hss
   have hmL : m + 1 = L := by rw [← g3, hL]
   have hcw : cwL l s' = F + k := by unfold cwL; rw [hL, ← hmL, g4, hF]
   rw [hcw] at hR
   subst hmL
   simp (disch := omega) only [go_sem, simprocAttr]
   exact hR.ro ⟨rfl, by push_cast; rfl⟩
  ·have hrne : m + 1 = L → k + 1 ≤ rkL l s := fun e => by
    have h3 := hk1 e
    have : k ≠ rkL l s := fun e2 => hss (rk_inj l g2 hs (by rw [g3, hL, e]) (by rw [g4, e2]))
    omega
   simp (disch := omega) only [go_sem, simprocAttr, show ¬ ((s' : Int) = s) by omega]
   exact hR2 (k + 1) _ (by omega) ⟨by omega, hrne⟩ (.le (by simp (disch := omega) only [go_sem, simprocAttr]))
 ·obtain rfl : k = C := by omega
  have hmL : m + 1 ≠ L := fun e => by
   have h3 := hk1 e
   rw [e] at hC
   omega
  have hh : halfL l (m + 1) = F + k := by simp [halfL, hF, hC]
  have hpr : preL l (m + 1 + 1) = preL l (m + 1) + k := by rw [← hC]; rfl
  simp (disch := omega) only [go_sem, simprocAttr]
  exact hR1 (m + 1) _ (by omega) (by omega) (.le (by simp (disch := omega) only [go_sem, simprocAttr, hh, hpr]))
theorem isym_ok (F most n : Nat) (B : Nat → Nat × Nat) (hF : callable Tryd.prog F = true) (hm : most ≤ 100) (hn : n ≤ 1000000) (hB : ∀ i, i ≤ most → SpecR Tryd.prog F [.int .i64 i] (.tup [.int .i64 ((B i).1 : Nat), .int .i64 ((B i).2 : Nat)])) (h0 : (B 0).1 ≤ n) (hbb : ∀ i, i ≤ most → (B i).1 ≤ 1000000) :
    Eng.Spec Tryd.prog 56 [] [.int .i64 n, .int .i64 most, .lit (.func (.func F) #[] #[])]
     (fun h r _ => h = [] ∧ ∃ i, i ≤ most ∧ (B i).1 ≤ n ∧ (∀ j, i < j → j ≤ most → n < (B j).1) ∧ r = .tup [.int .i64 i, .int .u32 ((n - (B i).1 : Nat)), .int .i64 ((B i).2 : Nat)]) := by
 refine Cod.isym_spec (fun E R hN hR => ?_)
 simp (disch := omega) only [go_sem, simprocAttr]
 refine vcW_loop hN (fun i : Nat => ⟨[(0, .int .i64 n), (2, .lit (.func (.func F) #[] #[])), (9, .int .i64 i)], []⟩) (fun i => i ≤ most ∧ ∀ j, i < j → j ≤ most → n < (B j).1) (fun i => i) most (.le (by simp (disch := omega) only [go_sem, simprocAttr])) ⟨by omega, fun j h1 h2 => by omega⟩ ?_
 rintro i R1 ⟨hi, hup⟩ hR1
 have hbi := hbb i hi
 simp (disch := omega) only [go_sem, simprocAttr]
 refine dyn_to hF (call_ro (hB i hi) rfl rfl ?_)
 simp (disch := omega) only [go_sem, simprocAttr]
 by_cases hle : (B i).1 ≤ n
 ·simp (disch := omega) only [go_sem, simprocAttr]
  rw [show (n : Int) - ((B i).1 : Int) = ((n - (B i).1 : Nat) : Int) by omega]
  exact hR.ro ⟨rfl, i, hi, hle, hup, rfl⟩
 ·have hi0 : i ≠ 0 := fun e => by subst e; omega
  simp (disch := omega) only [go_sem, simprocAttr]
  exact hR1 (i - 1) _ (by omega) ⟨by omega, fun j h1 h2 => by
   by_cases e : j = i
   ·subst e; omega
   ·exact hup j (by omega) h2⟩ (.le (by simp (disch := omega) only [go_sem, simprocAttr, show ((i - 1 : Nat) : Int) = (i : Int) - 1 by omega]))
theorem slittle_ok (x n : Nat) (hx : x < 9223372036854775808) (hn : n ≤ 8) : SpecR Tryd.prog 73 [.int .u64 x, .int .i64 n] (.str (litB x n)) := by
 refine Cod.slittle_spec (fun E R hN hR => ?_)
 have em : max (n : Int) 0 = n := by omega
 simp (disch := omega) only [go_sem, simprocAttr, em]
 refine vcW_loop hN (fun k : Nat => ⟨[(0, .int .u64 x), (5, .sl 177024 0 k), (8, .int .i64 n), (9, .int .i64 k)], [(177024, .arr 1 ((litB x k).map ub))]⟩) (fun k => k ≤ n) (fun k => n - k) 0 (.nil 5 177024 1 rfl (.le (by simp (disch := omega) only [go_sem, simprocAttr, show litB x 0 = [] from rfl, List.map_nil]))) (by omega) ?_
 rintro k R1 hk hR1
 have hl := litB_len x k
 by_cases hlt : k < n
 ·have hct := litB_succ x k
  have hsh : (x : Int).fdiv (2 ^ min ((8 * (k : Int)).toNat) 64) = ((x / 256 ^ k : Nat) : Int) := by
   have e1 : (8 * (k : Int)).toNat = 8 * k := by omega
   rw [e1, Nat.min_eq_left (by omega), Int.fdiv_eq_ediv_of_nonneg _ (Int.pow_nonneg (by decide)), show (256 : Nat) = 2 ^ 8 from rfl, ← Nat.pow_mul]
   norm_cast
  generalize x / 256 ^ k = y at *
  have e3 : IntKind.u8.wrap (y : Int) = ((UInt8.ofNat (y % 256)).toNat : Int) := by
   rw [UInt8.toNat_ofNat']
   show (y : Int) % 256 = _
   omega
  have e8 : ¬ (8 : Int) ≤ (k : Int) := by omega
  simp (disch := omega) only [go_sem, simprocAttr, e8, hsh, e3]
  exact hR1 (k + 1) _ (by omega) (by omega) (.le (by rw [hct]; simp (disch := omega) only [go_sem, simprocAttr]; simp [ub]))
 ·obtain rfl : k = n := by omega
  simp (disch := omega) only [go_sem, simprocAttr]
  exact hR.wk (h' := []) (r' := .str (litB x k)) (ar' := [.undef, .undef]) rfl (.le (by simp (disch := omega) only [go_sem, simprocAttr])) ⟨rfl, rfl⟩
end Go.Proofs.YtjoefngnjoofeaaDoor.Pk
namespace Go.Proofs.YtjoefngnjoofeaaDoor.Pk
open Eng
set_option maxRecDepth 10000
theorem raw_err (t : Bs) (most : Nat) {S : SS} (h : S.err ≠ 0) : ∀ n, rawS t most n S = S
 | 0 => rfl
 | n + 1 => by rw [raw_succ, if_pos h]
theorem raw_law (t : Bs) (most : Nat) : ∀ (n : Nat) (S : SS) (q : Nat), S.err = 0 → S.p = 8 * q → q ≤ t.length → S.out.length ≤ most →
    (rawS t most n S).err = (if most < S.out.length + min n (t.length - q) then 2 else if t.length < q + n then 6 else 0) ∧ ((rawS t most n S).err = 0 → rawS t most n S = ⟨8 * (q + n), S.out ++ (t.drop q).take n, 0⟩)
 | 0, S, q, he, hp, hq, ho => by
  refine ⟨?_, fun _ => ?_⟩
  ·rw [if_neg (by omega), if_neg (by omega)]; exact he
  ·obtain ⟨p, out, err⟩ := S
   simp only at he hp
   subst he hp
   simp [rawS]
 | n + 1, S, q, he, hp, hq, ho => by
  rw [raw_succ, if_neg (by simpa using he)]
  by_cases hq1 : q = t.length
  ·have hn := num_no (n := 8) he (t := t) (by omega)
   rw [hn]
   have hput : putS most (UInt8.ofNat (0, { S with err := 6 }).1) (0, { S with err := 6 }).2 = { S with err := 6 } := if_pos (by simp)
   rw [hput, raw_err _ _ (by simp)]
   refine ⟨?_, fun h => absurd h (by simp)⟩
   rw [if_neg (by omega), if_pos (by omega)]
  ·have hn := num_ok (n := 8) he (t := t) (by omega)
   rw [hn]
   simp only
   rw [hp, num_byte, UInt8.ofNat_toNat]
   unfold putS
   rw [if_neg (by simpa using he)]
   by_cases hf : most ≤ S.out.length
   ·simp only [if_pos hf]
    rw [raw_err _ _ (by simp)]
    refine ⟨?_, fun h => absurd h (by simp)⟩
    rw [if_pos (by omega)]
   ·simp only [if_neg hf]
    obtain ⟨h1, h2⟩ := raw_law t most n { p := 8 * q + 8, out := S.out ++ [t.getD q 0], err := S.err } (q + 1) he (by simp only; omega) (by omega) (by simp only [List.length_append, List.length_singleton]; omega)
    refine ⟨?_, fun h => ?_⟩
    ·rw [h1]
     simp only [List.length_append, List.length_singleton]
     rw [show S.out.length + 1 + min n (t.length - (q + 1)) = S.out.length + min (n + 1) (t.length - q) by omega, show q + 1 + n = q + (n + 1) by omega]
    ·rw [h2 h]
     have hlt : q < t.length := by omega
     rw [List.drop_eq_getElem_cons hlt, List.take_succ_cons, List.getD_eq_getElem?_getD, List.getElem?_eq_getElem hlt, show q + 1 + n = q + (n + 1) by omega]
     simp
theorem stored_law (t : Bs) (most : Nat) (S : SS) (he : S.err = 0) (hp : S.p ≤ 8 * t.length) (ho : S.out.length ≤ most) (q : Nat) (hq : upB S.p = 8 * q) :
    if t.length < q + 4 then (storedS t most S).err = 6 else
     if (t.getD q 0).toNat + (t.getD (q + 1) 0).toNat * 2 ^ 8 + ((t.getD (q + 2) 0).toNat + (t.getD (q + 3) 0).toNat * 2 ^ 8) ≠ 65535 then (storedS t most S).err = 3 else
     (storedS t most S).err = (if most < S.out.length + min ((t.getD q 0).toNat + (t.getD (q + 1) 0).toNat * 2 ^ 8) (t.length - (q + 4)) then 2 else if t.length < q + 4 + ((t.getD q 0).toNat + (t.getD (q + 1) 0).toNat * 2 ^ 8) then 6 else 0) ∧
     ((storedS t most S).err = 0 → storedS t most S = ⟨8 * (q + 4 + ((t.getD q 0).toNat + (t.getD (q + 1) 0).toNat * 2 ^ 8)), S.out ++ (t.drop (q + 4)).take ((t.getD q 0).toNat + (t.getD (q + 1) 0).toNat * 2 ^ 8), 0⟩) := by
 have hn16 : ∀ i, numAt t (8 * i) 16 = (t.getD i 0).toNat + (t.getD (i + 1) 0).toNat * 2 ^ 8 := by
  intro i
  rw [show (16 : Nat) = 8 + 8 from rfl, num_two, num_byte, show 8 * i + 8 = 8 * (i + 1) by omega, num_byte]
 have hup : upS S = { S with p := 8 * q } := by unfold upS; unfold upB at hq; rw [hq]
 have hq2 : q ≤ t.length := by unfold upB at hq; omega
 unfold storedS
 simp only
 rw [hup]
 by_cases h4 : t.length < q + 4
 ·rw [if_pos h4]
  by_cases h2 : t.length < q + 2
  ·rw [num_no (by exact he) (by simp only; omega)]
   simp only
   rw [num_err (by simp)]
   simp only
   rw [if_pos (by decide)]
   rw [raw_err _ _ (fail_err (by decide))]
   rfl
  ·rw [num_ok (by exact he) (by simp only; omega)]
   simp only
   rw [num_no (by exact he) (by simp only; omega)]
   simp only
   have hfe : failS 3 { p := 8 * q + 16, out := S.out, err := 6 } = ({ p := 8 * q + 16, out := S.out, err := 6 } : SS) := if_neg (by simp)
   rw [hfe, ite_self, raw_err _ _ (by simp)]
 ·rw [if_neg h4]
  rw [num_ok (by exact he) (by simp only; omega)]
  simp only
  rw [num_ok (by exact he) (by simp only; omega)]
  simp only
  rw [show 8 * q + 16 = 8 * (q + 2) by omega, hn16, hn16]
  by_cases hx : (t.getD q 0).toNat + (t.getD (q + 1) 0).toNat * 2 ^ 8 + ((t.getD (q + 2) 0).toNat + (t.getD (q + 2 + 1) 0).toNat * 2 ^ 8) ≠ 65535
  ·rw [if_pos hx, if_pos hx, raw_err _ _ (fail_err (by decide)), fail_of (by exact he)]
  ·rw [if_neg hx, if_neg hx]
   exact raw_law t most _ _ (q + 4) he (by simp only; omega) (by omega) ho
end Go.Proofs.YtjoefngnjoofeaaDoor.Pk
namespace Go.Proofs.YtjoefngnjoofeaaDoor.Pk
open Eng
set_option maxRecDepth 10000
theorem rused_bor (s : Bs) (a hv fr p : Nat) (hs : s.length ≤ 1000000000000) (h : RdOK s a hv p) (hfr : 8 * fr ≤ p) : Eng.Spec Tryd.prog 68 [] [.elt (.agg (rdA s a hv fr))] (fun h' v ar => h' = [] ∧ v = .int .i64 ((p + 7) / 8 - fr : Nat) ∧ ar = [.elt (.agg (rdA s a hv fr))]) := by
 refine Cod.rused_spec (fun E R hN hR => ?_)
 obtain ⟨h1, h2, h3⟩ := h
 have eq : (hv : Int).tdiv 8 = ((hv / 8 : Nat) : Int) := by rw [tdiv_pos (by omega)]; omega
 have e2 : (a : Int) - ((hv / 8 : Nat) : Int) - (fr : Int) = (((p + 7) / 8 - fr : Nat) : Int) := by omega
 simp (disch := omega) only [go_sem, simprocAttr, rdA, eq, e2]
 exact hR.le (by simp (disch := omega) only [go_sem, simprocAttr]) ⟨rfl, rfl, rfl⟩
theorem rleft_bor (s : Bs) (a hv fr p : Nat) (hs : s.length ≤ 1000000000000) (h : RdOK s a hv p) : Eng.Spec Tryd.prog 89 [] [.elt (.agg (rdA s a hv fr))] (fun h' v ar => h' = [] ∧ v = .int .i64 (leftB s p : Nat) ∧ ar = [.elt (.agg (rdA s a hv fr))]) := by
 refine Cod.rleft_spec (fun E R hN hR => ?_)
 obtain ⟨h1, h2, h3⟩ := h
 have e2 : 8 * ((s.length : Int) - (a : Int)) + (hv : Int) = ((leftB s p : Nat) : Int) := by unfold leftB; omega
 simp (disch := omega) only [go_sem, simprocAttr, rdA, e2]
 exact hR.le (by simp (disch := omega) only [go_sem, simprocAttr]) ⟨rfl, rfl, rfl⟩
theorem take4 (s : Bs) (q : Nat) (h : q + 4 ≤ s.length) : (s.drop q).take 4 = [s.getD q 0, s.getD (q + 1) 0, s.getD (q + 2) 0, s.getD (q + 3) 0] := by
 have e : (s.drop q).take 4 = (s.drop q).take 2 ++ (s.drop (q + 2)).take 2 := by rw [show (4 : Nat) = 2 + 2 from rfl, List.take_add, List.drop_drop]
 rw [e, drop_two s q (by omega), drop_two s (q + 2) (by omega)]
 rfl
theorem xor_all {n : Nat} (h : n < 65536) : n ^^^ 65535 = 65535 - n := by
 have h1 : (BitVec.ofNat 16 n ^^^ BitVec.allOnes 16).toNat = (~~~ (BitVec.ofNat 16 n)).toNat := by rw [BitVec.xor_allOnes]
 rw [BitVec.toNat_xor, BitVec.toNat_not, BitVec.toNat_ofNat, BitVec.toNat_allOnes, Nat.mod_eq_of_lt (by omega)] at h1
 omega
set_option maxHeartbeats 1000000 in
theorem istored_ok (s : Bs) (o most a hv : Nat) (S : SS) (hs : s.length ≤ 1000000000) (ho : o ≤ s.length) (hm : most ≤ 1000000) (hr : RdOK s a hv (8 * o + S.p)) (hol : S.out.length ≤ most) (he : S.err = 0) :
    Eng.Spec Tryd.prog 78 (stI s o most a hv S.out) [.vptr IST 0] (fun h' v ar => PI s o most (storedS (s.drop o) most S) h' v ∧ ar = [.vptr IST 0]) := by
 refine Cod.istored_spec (fun E R hN hR => ?_)
 obtain ⟨q, hq⟩ : ∃ q, upB S.p = 8 * q := ⟨(S.p + 7) / 8, by unfold upB; omega⟩
 have hr' := hr
 obtain ⟨r1, r2, r3⟩ := hr'
 have hpl : S.p ≤ 8 * (s.drop o).length := by rw [List.length_drop]; omega
 have hup : upB (8 * o + S.p) = 8 * (o + q) := by unfold upB at hq ⊢; omega
 have hud : upB (8 * o + S.p) / 8 = o + q := by omega
 have law := stored_law (s.drop o) most S he hpl hol q hq
 generalize storedS (s.drop o) most S = F at *
 have gd : ∀ i, (s.drop o).getD i 0 = s.getD (o + i) 0 := fun i => by rw [List.getD_eq_getElem?_getD, List.getElem?_drop, ← List.getD_eq_getElem?_getD]
 rw [gd, gd, gd, gd, List.length_drop, List.drop_drop] at law
 have hb := rbytes_ok s a hv o (8 * o + S.p) 4 (by omega) (by decide) hr
 rw [hud] at hb
 simp (disch := omega) only [go_sem, simprocAttr, stI]
 refine call_win [(RD, .var (rdA s a hv o))] hb (by simp (disch := omega) only [go_sem, simprocAttr]) nofun ?_
 rintro h' v ar ⟨a1, hv1, hr1, hz1, rfl, rfl, rfl⟩
 by_cases h4 : s.length < o + q + 4
 ·rw [if_neg (by omega)] at hr1
  rw [if_neg (by omega), decide_eq_false (by omega)]
  rw [if_pos (by omega)] at law
  refine ⟨by simp (disch := omega) only [go_sem, simprocAttr, rdA], rfl, ?_⟩
  simp (disch := omega) only [go_sem, simprocAttr, rdA]
  exact hR.le (h' := stI s o most a1 hv1 S.out) (by simp (disch := omega) only [go_sem, simprocAttr, stI, rdA]) ⟨pi_of ⟨a1, hv1, { S with p := 8 * q, err := 6 }, rfl, by simp only; rw [show 8 * o + 8 * q = 8 * (o + q) by omega, ← hup]; exact hr1, hol, by rw [law]; rfl, fun h => absurd h (by rw [law]; decide)⟩, rfl⟩
 ·rw [if_pos (by omega)] at hr1
  rw [if_pos (by omega), decide_eq_true (by omega), take4 s (o + q) (by omega)]
  rw [if_neg (by omega)] at law
  generalize s.getD (o + q) 0 = c0 at *
  generalize s.getD (o + (q + 1)) 0 = c1 at *
  generalize s.getD (o + (q + 2)) 0 = c2 at *
  generalize s.getD (o + (q + 3)) 0 = c3 at *
  have hc0 := c0.toNat_lt
  have hc1 := c1.toNat_lt
  have hc2 := c2.toNat_lt
  have hc3 := c3.toNat_lt
  have l1 := little_ok c0 c1
  have l2 := little_ok c2 c3
  generalize hn : c0.toNat + c1.toNat * 2 ^ 8 = n at *
  generalize hk : c2.toNat + c3.toNat * 2 ^ 8 = k at *
  have hn6 : n < 65536 := by omega
  have hk6 : k < 65536 := by omega
  refine ⟨by simp (disch := omega) only [go_sem, simprocAttr, rdA], rfl, ?_⟩
  simp (disch := omega) only [go_sem, simprocAttr, rdA]
  refine call_ro l1 rfl rfl ?_
  simp (disch := omega) only [go_sem, simprocAttr]
  refine call_ro l2 rfl rfl ?_
  have ex : bits .xor .i64 (n : Int) 65535 = ((65535 - n : Nat) : Int) := by
   show IntKind.i64.wrap ((BitVec.ofInt 64 (n : Int) ^^^ BitVec.ofInt 64 ((65535 : Nat) : Int)).toNat : Int) = _
   rw [BitVec.ofInt_natCast, BitVec.ofInt_natCast, BitVec.toNat_xor, BitVec.toNat_ofNat, BitVec.toNat_ofNat, Nat.mod_eq_of_lt (by omega), Nat.mod_eq_of_lt (by decide), xor_all hn6]
   exact wrap_id (by omega)
  simp (disch := omega) only [go_sem, simprocAttr, ex]
  by_cases hx : n + k ≠ 65535
  ·rw [if_pos hx] at law
   have hne : ¬ ((65535 - n : Nat) : Int) = (k : Int) := by omega
   simp (disch := omega) only [go_sem, simprocAttr, hne]
   exact hR.le (h' := stI s o most a1 hv1 S.out) (by simp (disch := omega) only [go_sem, simprocAttr, stI, rdA]) ⟨pi_of ⟨a1, hv1, { S with p := 8 * (q + 4), err := 3 }, rfl, by simp only; rw [hup] at hr1; rw [show 8 * o + 8 * (q + 4) = 8 * (o + q) + 8 * 4 by omega]; exact hr1, hol, by rw [law]; rfl, fun h => absurd h (by rw [law]; decide)⟩, rfl⟩
  ·rw [if_neg hx] at law
   have heq : ((65535 - n : Nat) : Int) = (k : Int) := by omega
   obtain ⟨law1, law2⟩ := law
   have hr1' : RdOK s a1 hv1 (8 * (o + q + 4)) := by rw [hup] at hr1; rw [show 8 * (o + q + 4) = 8 * (o + q) + 8 * 4 by omega]; exact hr1
   have hup1 : upB (8 * (o + q + 4)) = 8 * (o + q + 4) := by unfold upB; omega
   have hb2 := rbytes_ok s a1 hv1 o (8 * (o + q + 4)) n (by omega) (by omega) hr1'
   rw [hup1, Nat.mul_div_cancel_left _ (by decide)] at hb2
   simp (disch := omega) only [go_sem, simprocAttr, heq]
   refine call_win [(RD, .var (rdA s a1 hv1 o))] hb2 (by simp (disch := omega) only [go_sem, simprocAttr, rdA]) nofun ?_
   rintro h' v ar ⟨a2, hv2, hr2, hz2, rfl, rfl, rfl⟩
   have key : ∀ (ok : Bool) (x : Bs), ok = decide (n ≤ s.length - (o + q + 4)) → x = (if n ≤ s.length - (o + q + 4) then (s.drop (o + q + 4)).take n else []) →
    vcW Tryd.prog E Cod.istored_6 (KQ.post [RVar.tmp 2] 1 R) ⟨[(0, .vptr 65032 0), (4, .bool ok), (6, .str x), (2000000, .vptr 65032 0)], [(40014, .var (rdA s a2 hv2 o)), (65032, .var [.vptr 40014 0, .sl 60022 0 S.out.length, .int .i64 most]), (60022, .arr 1 (S.out.map ub))]⟩ := by
    intro ok x hok hv4
    refine vcW_cut hN (fun z : Nat × Nat => ⟨[(0, .vptr IST 0), (4, .bool ok), (6, .str ((s.drop (o + q + 4)).take n)), (2000000, .vptr IST 0)], stI s o most z.1 z.2 S.out⟩) (fun z => RdOK s z.1 z.2 (8 * (o + q + 4 + min n (s.length - (o + q + 4))))) (fun R2 hR2 => ?_) (fun z hz => ?_)
    ·clear hR
     subst hok
     subst hv4
     by_cases hfit : n ≤ s.length - (o + q + 4)
     ·rw [if_pos hfit] at hr2
      rw [if_pos hfit, decide_eq_true hfit]
      simp (disch := omega) only [go_sem, simprocAttr, stI, rdA]
      refine hR2 (a2, hv2) _ (by simp only; rw [Nat.min_eq_left hfit, show 8 * (o + q + 4 + n) = 8 * (o + q + 4) + 8 * n by omega]; exact hr2) (.le ?_)
      simp (disch := omega) only [go_sem, simprocAttr, stI, rdA]
     ·rw [if_neg hfit] at hr2
      rw [if_neg hfit, decide_eq_false hfit]
      have hlb := rleft_bor s a2 hv2 o _ (by omega) hr2
      have el : leftB s (8 * (o + q + 4)) / 8 = s.length - (o + q + 4) := by unfold leftB; omega
      have hb3 := rbytes_ok s a2 hv2 o _ (s.length - (o + q + 4)) (by omega) (by omega) hr2
      rw [hup1, Nat.mul_div_cancel_left _ (by decide), if_pos (Nat.le_refl _)] at hb3
      generalize leftB s (8 * (o + q + 4)) = lb at *
      have elb : (lb : Int) / 8 = ((s.length - (o + q + 4) : Nat) : Int) := by omega
      simp only [rdA] at hlb
      simp (disch := omega) only [go_sem, simprocAttr, rdA]
      (repeat (first | refine gskip_of ?_ | refine gcskip_of ?_ | refine gopen_of ?_) <;> simp (disch := omega) only [go_sem, simprocAttr])
      refine call_bor [] (by simp (disch := omega) only [go_sem, simprocAttr]) hlb trivial (fun _ => rfl) ?_
      rintro h' v ar ⟨rfl, rfl, rfl⟩
      refine ⟨rfl, rfl, ?_⟩
      simp (disch := omega) only [go_sem, simprocAttr, elb]
      refine call_win [(RD, .var (rdA s a2 hv2 o))] hb3 (by simp (disch := omega) only [go_sem, simprocAttr, rdA]) nofun ?_
      rintro h' v ar ⟨a3, hv3, hr3, hz3, rfl, rfl, rfl⟩
      rw [if_pos (Nat.le_refl _), decide_eq_true (Nat.le_refl _)]
      have etk : (s.drop (o + q + 4)).take (s.length - (o + q + 4)) = (s.drop (o + q + 4)).take n := by
       rw [List.take_of_length_le (by rw [List.length_drop]; omega), List.take_of_length_le (by rw [List.length_drop]; omega)]
      refine ⟨by simp (disch := omega) only [go_sem, simprocAttr, rdA], rfl, ?_⟩
      simp (disch := omega) only [go_sem, simprocAttr, rdA]
      refine hR2 (a3, hv3) _ (by simp only; rw [Nat.min_eq_right (by omega), show 8 * (o + q + 4 + (s.length - (o + q + 4))) = 8 * (o + q + 4) + 8 * (s.length - (o + q + 4)) by omega]; exact hr3) (.le ?_)
      simp (disch := omega) only [go_sem, simprocAttr, stI, rdA, etk]
    ·obtain ⟨a3, hv3⟩ := z
     simp only at hz ⊢
     have hbl : ((s.drop (o + q + 4)).take n).length = min n (s.length - (o + q + 4)) := by rw [List.length_take, List.length_drop]
     generalize hbb : (s.drop (o + q + 4)).take n = b at *
     by_cases hbig : most - S.out.length < b.length
     ·have hbi : (most : Int) - (S.out.length : Int) < (b.length : Int) := by omega
      rw [if_pos (by omega)] at law1
      simp (disch := omega) only [go_sem, simprocAttr, stI, rdA, hbi]
      exact hR.le (h' := stI s o most a3 hv3 S.out) (by simp (disch := omega) only [go_sem, simprocAttr, stI, rdA]) ⟨pi_of ⟨a3, hv3, { S with p := 8 * (q + 4 + min n (s.length - (o + q + 4))), err := 2 }, rfl, by simp only; rw [show 8 * o + 8 * (q + 4 + min n (s.length - (o + q + 4))) = 8 * (o + q + 4 + min n (s.length - (o + q + 4))) by omega]; exact hz, hol, by rw [law1]; rfl, fun h => absurd h (by rw [law1]; decide)⟩, rfl⟩
     ·have hbi : ¬ (most : Int) - (S.out.length : Int) < (b.length : Int) := by omega
      rw [if_neg (by omega)] at law1
      by_cases hfit : n ≤ s.length - (o + q + 4)
      ·rw [decide_eq_true hfit] at hok
       subst hok
       rw [if_neg (by omega)] at law1
       have law2 := law2 law1
       simp (disch := omega) only [go_sem, simprocAttr, stI, rdA, hbi]
       exact hR.le (h' := stI s o most a3 hv3 (S.out ++ b)) (by simp (disch := omega) only [go_sem, simprocAttr, stI, rdA]) ⟨pi_of ⟨a3, hv3, F, by rw [law2], by rw [law2]; simp only; rw [Nat.min_eq_left hfit] at hz; rw [show 8 * o + 8 * (q + 4 + n) = 8 * (o + q + 4 + n) by omega]; exact hz, by rw [law2]; simp only [List.length_append]; omega, by rw [law1]; rfl, fun _ => rfl⟩, rfl⟩
      ·rw [decide_eq_false hfit] at hok
       subst hok
       rw [if_pos (by omega)] at law1
       simp (disch := omega) only [go_sem, simprocAttr, stI, rdA, hbi]
       exact hR.le (h' := stI s o most a3 hv3 (S.out ++ b)) (by simp (disch := omega) only [go_sem, simprocAttr, stI, rdA]) ⟨pi_of ⟨a3, hv3, ⟨8 * (q + 4 + min n (s.length - (o + q + 4))), S.out ++ b, 6⟩, rfl, by simp only; rw [show 8 * o + 8 * (q + 4 + min n (s.length - (o + q + 4))) = 8 * (o + q + 4 + min n (s.length - (o + q + 4))) by omega]; exact hz, by simp only [List.length_append]; omega, by rw [law1]; rfl, fun h => absurd h (by rw [law1]; decide)⟩, rfl⟩
   by_cases hfit : n ≤ s.length - (o + q + 4)
   ·have key := key true _ (by rw [decide_eq_true hfit]) rfl
    rw [if_pos hfit] at key
    rw [if_pos hfit, decide_eq_true hfit]
    refine ⟨by simp (disch := omega) only [go_sem, simprocAttr, rdA], rfl, ?_⟩
    simp only [rdA] at key
    simp (disch := omega) only [go_sem, simprocAttr, rdA]
    exact key
   ·have key := key false _ (by rw [decide_eq_false hfit]) rfl
    rw [if_neg hfit] at key
    rw [if_neg hfit, decide_eq_false hfit]
    refine ⟨by simp (disch := omega) only [go_sem, simprocAttr, rdA], rfl, ?_⟩
    simp only [rdA] at key
    simp (disch := omega) only [go_sem, simprocAttr, rdA]
    exact key
end Go.Proofs.YtjoefngnjoofeaaDoor.Pk
namespace Go.Proofs.YtjoefngnjoofeaaDoor.Pk
open Eng
set_option maxRecDepth 10000
theorem backS_succ (most back n : Nat) (S : SS) : backS most back (n + 1) S = if S.err ≠ 0 then S else backS most back n (putS most (S.out.getD (S.out.length - back) 0) S) := rfl
theorem backS_err (most back : Nat) {S : SS} (h : S.err ≠ 0) : ∀ n, backS most back n S = S
 | 0 => rfl
 | n + 1 => by rw [backS_succ, if_pos h]
theorem lenB_lt : ∀ i, i ≤ 28 → (lenB i).1 ≤ 300 ∧ (lenB i).2 ≤ 8 := by decide +kernel
theorem disB_lt : ∀ i, i ≤ 29 → (disB i).1 ≤ 40000 ∧ (disB i).2 ≤ 15 ∧ 1 ≤ (disB i).1 := by decide +kernel
set_option maxHeartbeats 2000000 in
theorem irepeat_ok (s : Bs) (o most a hv : Nat) (S : SS) (d : List Nat) (sy : Nat) (hs : s.length ≤ 1000000000) (ho : o ≤ s.length) (hm : most ≤ 1000000) (hr : RdOK s a hv (8 * o + S.p)) (hol : S.out.length ≤ most) (he : S.err = 0)
    (hd : ∀ n ∈ d, n ≤ 15) (hdl : d.length ≤ 320) (hdc : chkL d = true) (hsy : 257 ≤ sy) (hsy2 : sy ≤ 400) :
    Eng.Spec Tryd.prog 82 (stI s o most a hv S.out) [.vptr IST 0, .int .i64 sy, tblA d] (fun h' v ar => PI s o most (repS (s.drop o) most d sy S) h' v ∧ ar = [.vptr IST 0, .int .i64 sy, tblA d]) := by
 refine Cod.irepeat_spec (fun E R hN hR => ?_)
 have htl : (s.drop o).length = s.length - o := List.length_drop
 by_cases h285 : 285 < sy
 ·have hF : repS (s.drop o) most d sy S = { S with err := 3 } := by unfold repS; rw [if_pos h285, fail_of he]
  rw [hF] at hR
  simp (disch := omega) only [go_sem, simprocAttr, stI, rdA]
  (repeat (first | refine gskip_of ?_ | refine gcskip_of ?_ | refine gopen_of ?_) <;> simp (disch := omega) only [go_sem, simprocAttr])
  exact hR.le (h' := stI s o most a hv S.out) (by simp (disch := omega) only [go_sem, simprocAttr, stI, rdA]) ⟨pi_of ⟨a, hv, S, rfl, hr, hol, rfl, fun h => absurd h (by simp)⟩, rfl⟩
 ·have elen : (sy : Int) - 257 = ((sy - 257 : Nat) : Int) := by omega
  have hlt := lenB_lt (sy - 257) (by omega)
  have hlenb := ilenb_ok (sy - 257) (by omega)
  have hrep : repS (s.drop o) most d sy S = (let a := numS (s.drop o) (lenB (sy - 257)).2 S
   let k := symS (s.drop o) d a.2
   if k.2.err ≠ 0 then k.2 else if 29 < k.1 then failS 3 k.2 else
   let b := numS (s.drop o) (disB k.1).2 k.2
   let back := (disB k.1).1 + b.1
   if b.2.err ≠ 0 then b.2 else if b.2.out.length < back then failS 3 b.2 else backS most back ((lenB (sy - 257)).1 + a.1) b.2) := by unfold repS; rw [if_neg h285]
  rw [hrep] at hR
  clear hrep
  simp only at hR
  generalize lenB (sy - 257) = lb at *
  simp (disch := omega) only [go_sem, simprocAttr, stI, tblA, elen]
  (repeat (first | refine gskip_of ?_ | refine gcskip_of ?_ | refine gopen_of ?_) <;> simp (disch := omega) only [go_sem, simprocAttr, elen])
  refine call_ro hlenb rfl rfl ?_
  simp (disch := omega) only [go_sem, simprocAttr]
  have hbits := rbits_ok s a hv o (8 * o + S.p) lb.2 (by omega) hr (by omega)
  rw [left_drop, ← num_drop] at hbits
  refine call_win [(RD, .var (rdA s a hv o))] hbits (by simp (disch := omega) only [go_sem, simprocAttr]) nofun ?_
  rintro h' v ar ⟨a1, hv1, hr1, rfl, rfl, rfl⟩
  by_cases hf1 : lb.2 ≤ 8 * (s.drop o).length - S.p
  ·rw [if_pos hf1] at hr1
   rw [if_pos hf1, decide_eq_true hf1]
   have hpl : S.p + lb.2 ≤ 8 * (s.drop o).length := by have := hr.h2; have := hr.h3; omega
   rw [num_ok he hpl] at hR
   simp only at hR
   have hnl := num_lt (s.drop o) S.p lb.2
   have hn256 : 2 ^ lb.2 ≤ 2 ^ 8 := Nat.pow_le_pow_right (by decide) hlt.2
   generalize numAt (s.drop o) S.p lb.2 = x1 at *
   refine ⟨by simp (disch := omega) only [go_sem, simprocAttr, rdA], rfl, ?_⟩
   have hread := hread_ok d hd hdl hdc s a1 hv1 o (8 * o + S.p + lb.2) (by omega) hr1
   rw [Nat.add_assoc, ← rest_drop] at hread
   simp only [tblA] at hread
   generalize hre : readL (codesL d) (restB (s.drop o) (S.p + lb.2)) = re at *
   simp (disch := omega) only [go_sem, simprocAttr]
   refine call_win [(RD, .var (rdA s a1 hv1 o))] hread (by simp (disch := omega) only [go_sem, simprocAttr]) nofun ?_
   rintro h' v ar ⟨a2, hv2, p2, k, hr2, rfl, rfl, hk, rfl⟩
   refine ⟨by simp (disch := omega) only [go_sem, simprocAttr, rdA], rfl, ?_⟩
   by_cases hre2 : re.2.2 = 0
   ·obtain ⟨rfl, rfl⟩ := hk hre2
    have hsym : symS (s.drop o) d { S with p := S.p + lb.2 } = (re.1, { S with p := S.p + lb.2 + re.2.1 }) := by rw [← hre]; exact sym_ok he (by rw [hre]; exact hre2)
    rw [hsym] at hR
    simp only at hR
    rw [if_neg (by simpa using he)] at hR
    have hr2' : RdOK s a2 hv2 (8 * o + (S.p + lb.2 + re.2.1)) := by rw [show 8 * o + (S.p + lb.2 + re.2.1) = 8 * o + (S.p + lb.2) + re.2.1 by omega]; exact hr2
    generalize hp2 : S.p + lb.2 + re.2.1 = p2 at *
    have hklt : re.1 ≤ 400 := by
     have := read_bits (codesL d) (restB (s.drop o) (S.p + lb.2)) (by rw [hre]; exact hre2)
     rw [hre] at this
     have hcl : (codesL d).length = d.length := by simp [codesL]
     omega
    generalize re.1 = k at *
    by_cases h29 : 29 < k
    ·rw [if_pos h29, fail_of (by exact he)] at hR
     simp (disch := omega) only [go_sem, simprocAttr, hre2]
     exact hR.le (h' := stI s o most a2 hv2 S.out) (by simp (disch := omega) only [go_sem, simprocAttr, stI, rdA]) ⟨pi_of ⟨a2, hv2, { S with p := p2 }, rfl, hr2', hol, rfl, fun h => absurd h (by simp)⟩, rfl⟩
    ·rw [if_neg h29] at hR
     have hdt := disB_lt k (by omega)
     have hdb := idisb_ok k (by omega)
     generalize disB k = db at *
     have hbits2 := rbits_ok s a2 hv2 o (8 * o + p2) db.2 (by omega) hr2' (by omega)
     rw [left_drop, ← num_drop] at hbits2
     simp (disch := omega) only [go_sem, simprocAttr, hre2]
     refine call_ro hdb rfl rfl ?_
     simp (disch := omega) only [go_sem, simprocAttr]
     refine call_win [(RD, .var (rdA s a2 hv2 o))] hbits2 (by simp (disch := omega) only [go_sem, simprocAttr]) nofun ?_
     rintro h' v ar ⟨a3, hv3, hr3, rfl, rfl, rfl⟩
     by_cases hf2 : db.2 ≤ 8 * (s.drop o).length - p2
     ·rw [if_pos hf2] at hr3
      rw [if_pos hf2, decide_eq_true hf2]
      have hpl2 : p2 + db.2 ≤ 8 * (s.drop o).length := by have := hr2'.h2; have := hr2'.h3; omega
      rw [num_ok (by exact he) hpl2] at hR
      simp only at hR
      rw [if_neg (by simpa using he)] at hR
      have hn2 := num_lt (s.drop o) p2 db.2
      have hn15 : 2 ^ db.2 ≤ 2 ^ 15 := Nat.pow_le_pow_right (by decide) hdt.2.1
      generalize numAt (s.drop o) p2 db.2 = x2 at *
      refine ⟨by simp (disch := omega) only [go_sem, simprocAttr, rdA], rfl, ?_⟩
      simp (disch := omega) only [go_sem, simprocAttr]
      by_cases hbk : S.out.length < db.1 + x2
      ·have hbi : (S.out.length : Int) < (db.1 : Int) + (x2 : Int) := by omega
       rw [if_pos (by exact hbk), fail_of (by exact he)] at hR
       simp (disch := omega) only [go_sem, simprocAttr, hbi]
       exact hR.le (h' := stI s o most a3 hv3 S.out) (by simp (disch := omega) only [go_sem, simprocAttr, stI, rdA]) ⟨pi_of ⟨a3, hv3, { S with p := p2 + db.2 }, rfl, by show RdOK s a3 hv3 (8 * o + (p2 + db.2)); rw [← Nat.add_assoc]; exact hr3, hol, rfl, fun h => absurd h (by simp)⟩, rfl⟩
      ·have hbi : ¬ (S.out.length : Int) < (db.1 : Int) + (x2 : Int) := by omega
       rw [if_neg (by exact hbk)] at hR
       generalize hbb : db.1 + x2 = back at *
       have hb1 : 1 ≤ back := by omega
       have ebk : (db.1 : Int) + (x2 : Int) = (back : Int) := by omega
       have eln : (lb.1 : Int) + (x1 : Int) = ((lb.1 + x1 : Nat) : Int) := by omega
       have hln : lb.1 + x1 ≤ 1000 := by omega
       rw [ebk, eln]
       generalize lb.1 + x1 = n at *
       rw [ebk] at hbi
       simp (disch := omega) only [go_sem, simprocAttr, hbi]
       refine vcW_loop hN (fun z : Nat × Bs => ⟨[(0, .vptr 65032 0), (13, .int .i64 back), (79, .int .i64 n), (80, .int .i64 z.1), (2000000, .vptr 65032 0), (2000001, .int .i64 sy), (2000002, .elt (.agg (tblC d)))], stI s o most a3 hv3 z.2⟩)
        (fun z => z.1 ≤ n ∧ z.2.length ≤ most ∧ back ≤ z.2.length ∧ backS most back (n - z.1) ⟨p2 + db.2, z.2, S.err⟩ = backS most back n ⟨p2 + db.2, S.out, S.err⟩) (fun z => n - z.1) (0, S.out) (.le (by simp (disch := omega) only [go_sem, simprocAttr, stI, rdA])) ⟨by simp, hol, by simp only; omega, rfl⟩ ?_
       rintro ⟨j, out⟩ R1 ⟨hj, hjo, hjb, hjF⟩ hR1
       simp only at hj hjo hjb hjF
       by_cases hjn : j < n
       ·have ej : n - j = (n - j - 1) + 1 := by omega
        rw [ej, backS_succ, if_neg (by simpa using he)] at hjF
        unfold putS at hjF
        rw [if_neg (by simpa using he)] at hjF
        simp only at hjF
        have eidx : (out.length : Int) - (back : Int) = ((out.length - back : Nat) : Int) := by omega
        generalize hcc : out.getD (out.length - back) 0 = c at *
        have hput := iput_ok s o most a3 hv3 out hm hjo c
        simp (disch := omega) only [go_sem, simprocAttr, stI, rdA]
        rw [hcc]
        refine call_win (stI s o most a3 hv3 out) hput (by simp (disch := omega) only [go_sem, simprocAttr, stI, rdA]) nofun ?_
        rintro h' v ar ⟨rfl, rfl, rfl⟩
        refine ⟨by simp (disch := omega) only [go_sem, simprocAttr, stI, rdA], rfl, ?_⟩
        by_cases hfull : out.length = most
        ·rw [if_pos hfull, if_pos hfull]
         rw [if_pos (by omega), backS_err _ _ (by simp)] at hjF
         rw [← hjF] at hR
         simp (disch := omega) only [go_sem, simprocAttr, stI, rdA]
         exact hR.le (h' := stI s o most a3 hv3 out) (by simp (disch := omega) only [go_sem, simprocAttr, stI, rdA]) ⟨⟨a3, hv3, out, rfl, rfl, fun h => absurd h (by simp)⟩, rfl⟩
        ·rw [if_neg hfull, if_neg hfull]
         rw [if_neg (by omega)] at hjF
         simp (disch := omega) only [go_sem, simprocAttr, stI, rdA]
         exact hR1 (j + 1, out ++ [c]) _ (by simp only; omega) ⟨by simp only; omega, by simp only [List.length_append, List.length_singleton]; omega, by simp only [List.length_append, List.length_singleton]; omega, by simp only; rw [show n - (j + 1) = n - j - 1 by omega]; exact hjF⟩ (.le (by simp (disch := omega) only [go_sem, simprocAttr, stI, rdA]))
       ·obtain rfl : j = n := by omega
        rw [Nat.sub_self] at hjF
        rw [← hjF] at hR
        simp (disch := omega) only [go_sem, simprocAttr, stI, rdA]
        exact hR.le (h' := stI s o most a3 hv3 out) (by simp (disch := omega) only [go_sem, simprocAttr, stI, rdA]) ⟨⟨a3, hv3, out, rfl, by show _ = AV.int .i64 ((S.err : Nat) : Int); rw [he]; rfl, fun _ => ⟨rfl, by show RdOK s a3 hv3 (8 * o + (p2 + db.2)); rw [← Nat.add_assoc]; exact hr3⟩⟩, rfl⟩
     ·rw [if_neg hf2] at hr3
      rw [if_neg hf2, decide_eq_false hf2]
      rw [num_no (by exact he) (by simp only; omega)] at hR
      simp only at hR
      rw [if_pos (by decide)] at hR
      refine ⟨by simp (disch := omega) only [go_sem, simprocAttr, rdA], rfl, ?_⟩
      simp (disch := omega) only [go_sem, simprocAttr]
      exact hR.le (h' := stI s o most a3 hv3 S.out) (by simp (disch := omega) only [go_sem, simprocAttr, stI, rdA]) ⟨pi_of ⟨a3, hv3, { S with p := p2 }, rfl, hr3, hol, rfl, fun h => absurd h (by simp)⟩, rfl⟩
   ·have hsym : symS (s.drop o) d { S with p := S.p + lb.2 } = (0, { S with p := S.p + lb.2, err := re.2.2 }) := by rw [← hre]; exact sym_no he (by rw [hre]; exact hre2)
    rw [hsym] at hR
    simp only at hR
    rw [if_pos hre2] at hR
    have hi : ¬ ((re.2.2 : Nat) : Int) = 0 := by omega
    simp (disch := omega) only [go_sem, simprocAttr, hi]
    exact hR.le (h' := stI s o most a2 hv2 S.out) (by simp (disch := omega) only [go_sem, simprocAttr, stI, rdA]) ⟨⟨a2, hv2, S.out, rfl, rfl, fun h => absurd h hre2⟩, rfl⟩
  ·rw [if_neg hf1] at hr1
   rw [if_neg hf1, decide_eq_false hf1]
   rw [num_no he (by omega)] at hR
   simp only at hR
   rw [sym_err (by simp)] at hR
   simp only at hR
   rw [if_pos (by decide)] at hR
   refine ⟨by simp (disch := omega) only [go_sem, simprocAttr, rdA], rfl, ?_⟩
   simp (disch := omega) only [go_sem, simprocAttr]
   exact hR.le (h' := stI s o most a1 hv1 S.out) (by simp (disch := omega) only [go_sem, simprocAttr, stI, rdA]) ⟨pi_of ⟨a1, hv1, S, rfl, hr1, hol, rfl, fun h => absurd h (by simp)⟩, rfl⟩
end Go.Proofs.YtjoefngnjoofeaaDoor.Pk
namespace Go.Proofs.YtjoefngnjoofeaaDoor.Pk
open Eng
set_option maxRecDepth 10000
set_option maxHeartbeats 2000000 in
theorem ifixed_ok : SpecR Tryd.prog 52 [] (.tup [tblA fixL, tblA fixD]) := by
 refine Cod.ifixed_spec (fun E R hN hR => ?_)
 simp (disch := omega) only [go_sem, simprocAttr]
 refine vcW_loop hN (fun i : Nat => ⟨[(2, .sl 66022 0 i), (3, .nilsl), (9, .int .i64 i)], [(66022, .arr 1 (nats (upTo fixF i)))]⟩) (fun i => i ≤ 288) (fun i => 288 - i) 0 (.nil 2 66022 1 rfl (.le (by simp (disch := omega) only [go_sem, simprocAttr, upTo_zero, nats_nil]))) (by omega) ?_
 rintro i R1 hi hR1
 have hul := upTo_len fixF i
 have hnl := nats_len (upTo fixF i)
 by_cases hlt : i < 288
 ·have hus := upTo_succ fixF i
  have hsb : sub3 (nats (upTo fixF i)) 0 i = nats (upTo fixF i) := by
   have := nats_take (xs := upTo fixF i); rw [hul] at this; exact this
  simp (disch := omega) only [go_sem, simprocAttr]
  refine vcW_cut hN (fun _ : Unit => ⟨[(2, .sl 66022 0 i), (3, .nilsl), (4, .int .i64 i), (9, .int .i64 i), (15, .bool (decide (i < 144 ∨ 280 ≤ i)))], [(66022, .arr 1 (nats (upTo fixF i)))]⟩) (fun _ => True) (fun R2 hR2 => ?_) (fun _ _ => ?_)
  ·by_cases h1 : i < 144
   ·rw [decide_eq_true (.inl h1)] at hR2
    simp (disch := omega) only [go_sem, simprocAttr]
    (repeat (first | refine gskip_of ?_ | refine gcskip_of ?_ | refine gopen_of ?_) <;> simp (disch := omega) only [go_sem, simprocAttr])
    exact hR2 () _ trivial (.le (by simp (disch := omega) only [go_sem, simprocAttr]))
   ·by_cases h2 : 280 ≤ i
    ·rw [decide_eq_true (.inr h2)] at hR2
     simp (disch := omega) only [go_sem, simprocAttr]
     (repeat (first | refine gskip_of ?_ | refine gcskip_of ?_ | refine gopen_of ?_) <;> simp (disch := omega) only [go_sem, simprocAttr])
     exact hR2 () _ trivial (.le (by simp (disch := omega) only [go_sem, simprocAttr]))
    ·rw [decide_eq_false (by omega)] at hR2
     simp (disch := omega) only [go_sem, simprocAttr]
     (repeat (first | refine gskip_of ?_ | refine gcskip_of ?_ | refine gopen_of ?_) <;> simp (disch := omega) only [go_sem, simprocAttr])
     exact hR2 () _ trivial (.le (by simp (disch := omega) only [go_sem, simprocAttr]))
  ·by_cases h8 : i < 144 ∨ 280 ≤ i
   ·have hf : fixF i = 8 := by unfold fixF; rw [if_neg (by omega), if_neg (by omega)]
    rw [hf] at hus
    rw [decide_eq_true h8]
    simp (disch := omega) only [go_sem, simprocAttr, nats_cells, hsb]
    exact hR1 (i + 1) _ (by omega) (by omega) (.le (by rw [hus, ← nats_app]; simp (disch := omega) only [go_sem, simprocAttr]))
   ·rw [decide_eq_false h8]
    by_cases h9 : i < 256
    ·have hf : fixF i = 9 := by unfold fixF; rw [if_neg (by omega), if_pos (by omega)]
     rw [hf] at hus
     simp (disch := omega) only [go_sem, simprocAttr, nats_cells, hsb]
     exact hR1 (i + 1) _ (by omega) (by omega) (.le (by rw [hus, ← nats_app]; simp (disch := omega) only [go_sem, simprocAttr]))
    ·have hf : fixF i = 7 := by unfold fixF; rw [if_pos (by omega)]
     rw [hf] at hus
     simp (disch := omega) only [go_sem, simprocAttr, nats_cells, hsb]
     exact hR1 (i + 1) _ (by omega) (by omega) (.le (by rw [hus, ← nats_app]; simp (disch := omega) only [go_sem, simprocAttr]))
 ·obtain rfl : i = 288 := by omega
  simp (disch := omega) only [go_sem, simprocAttr]
  refine vcW_loop hN (fun i : Nat => ⟨[(2, .sl 66022 0 288), (3, .sl 66034 0 i), (30, .int .i64 i)], [(66022, .arr 1 (nats (upTo fixF 288))), (66034, .arr 1 (nats (upTo (fun _ => 5) i)))]⟩) (fun i => i ≤ 32) (fun i => 32 - i) 0 (.nil 3 66034 1 rfl (.le (by simp (disch := omega) only [go_sem, simprocAttr, upTo_zero, nats_nil]))) (by omega) ?_
  rintro i R2 hi hR2
  have hul2 := upTo_len (fun _ => 5) i
  have hnl2 := nats_len (upTo (fun _ => 5) i)
  by_cases hlt : i < 32
  ·have hus := upTo_succ (fun _ => 5) i
   have hsb : sub3 (nats (upTo (fun _ => 5) i)) 0 i = nats (upTo (fun _ => 5) i) := by
    have := nats_take (xs := upTo (fun _ => 5) i); rw [hul2] at this; exact this
   simp (disch := omega) only [go_sem, simprocAttr, nats_cells, hsb]
   exact hR2 (i + 1) _ (by omega) (by omega) (.le (by rw [hus, ← nats_app]; simp (disch := omega) only [go_sem, simprocAttr]))
  ·obtain rfl : i = 32 := by omega
   rw [fixL_eq] at *
   rw [fixD_eq] at *
   have e1 : sub3 (nats fixL) 0 288 = nats fixL := by rw [← fixL_ok.2.1]; exact nats_take
   have e2 : sub3 (nats fixD) 0 32 = nats fixD := by rw [← fixD_ok.2.1]; exact nats_take
   have n1 := hnew_ok fixL fixL_ok.1 (by rw [fixL_ok.2.1]; decide)
   have n2 := hnew_ok fixD fixD_ok.1 (by rw [fixD_ok.2.1]; decide)
   rw [if_pos fixL_ok.2.2] at n1
   rw [if_pos fixD_ok.2.2] at n2
   generalize fixL = l at *
   generalize fixD = d at *
   simp (disch := omega) only [go_sem, simprocAttr]
   refine call_wk ⟨[(37, .ro 1 (nats l)), (3, .ro 1 (nats d))], []⟩ (.frz 66022 (.frz 66034 (.le (by simp (disch := omega) only [go_sem, simprocAttr, e1, e2])))) rfl ?_
   simp (disch := omega) only [go_sem, simprocAttr]
   refine call_ro' n1 rfl ?_
   rintro h' v as' ⟨rfl, rfl⟩
   refine ⟨rfl, rfl, ?_⟩
   simp (disch := omega) only [go_sem, simprocAttr, tblA]
   refine call_ro' n2 rfl ?_
   rintro h' v as' ⟨rfl, rfl⟩
   refine ⟨rfl, rfl, ?_⟩
   simp (disch := omega) only [go_sem, simprocAttr, tblA]
   exact hR.le (by simp (disch := omega) only [go_sem, simprocAttr]) ⟨rfl, rfl⟩
def ordA : AV := .agg (nats placesL)
theorem iorder_ok : SpecR Tryd.prog 90 [] ordA := by
 refine Cod.iorder_spec (fun E R hN hR => ?_)
 simp (disch := omega) only [go_sem, simprocAttr]
 exact hR.le (by simp (disch := omega) only [go_sem, simprocAttr]) ⟨rfl, rfl⟩
end Go.Proofs.YtjoefngnjoofeaaDoor.Pk
namespace Go.Proofs.YtjoefngnjoofeaaDoor.Pk
open Eng
set_option maxRecDepth 10000
def storedB (s : Bs) : List Bool := alB (lowB 1 3) ++ restB (litB s.length 2 ++ litB (65535 - s.length) 2 ++ s) 0
def storedT (s : Bs) : Bs := textB (storedB s)
theorem storedT_len (s : Bs) : (storedT s).length = s.length + 5 := by
 have h1 : (alB (lowB 1 3)).length = 8 := by rw [al_len, low_len]
 have h2 := rest_len (litB s.length 2 ++ litB (65535 - s.length) 2 ++ s) 0
 simp only [List.length_append, litB_len] at h2
 unfold storedT textB storedB
 rw [pack_len, List.length_append, h1, h2]
 omega
theorem xor_low (n : Nat) (h : n ≤ 65535) : bits .xor .i64 (n : Int) 65535 = ((65535 - n : Nat) : Int) := by
 show IntKind.i64.wrap ((BitVec.ofInt 64 (n : Int) ^^^ BitVec.ofInt 64 ((65535 : Nat) : Int)).toNat : Int) = _
 rw [BitVec.ofInt_natCast, BitVec.ofInt_natCast, BitVec.toNat_xor, BitVec.toNat_ofNat, BitVec.toNat_ofNat, Nat.mod_eq_of_lt (by omega), Nat.mod_eq_of_lt (by omega)]
 have e : n ^^^ 65535 = 65535 - n := by
  apply Nat.eq_of_testBit_eq
  intro i
  rw [Nat.testBit_xor, show (65535 : Nat) = 2 ^ 16 - 1 by decide, Nat.testBit_two_pow_sub_one, show 2 ^ 16 - 1 - n = 2 ^ 16 - (n + 1) by omega, Nat.testBit_two_pow_sub_succ (by omega)]
  by_cases hi : i < 16
  ·simp [hi]
  ·simp [hi, Nat.testBit_lt_two_pow (show n < 2 ^ i from Nat.lt_of_lt_of_le (show n < 2 ^ 16 by omega) (Nat.pow_le_pow_right (by decide) (by omega)))]
 rw [e]
 exact IntWalk.i64_in _ (by omega)
theorem wstored_ok (s : Bs) (hs : s.length ≤ 65535) : SpecR Tryd.prog 60 [.str s] (.str (storedT s)) := by
 refine Cod.wstored_spec (fun E R hN hR => ?_)
 have hmin : min (s.length : Int) 65535 = s.length := by omega
 have hx := xor_low s.length hs
 have hl1 := slittle_ok s.length 2 (by omega) (by omega)
 have hl2 := slittle_ok (65535 - s.length) 2 (by omega) (by omega)
 have hll1 := litB_len s.length 2
 have hll2 := litB_len (65535 - s.length) 2
 have htk : s.take s.length = s := List.take_of_length_le (Nat.le_refl _)
 have hb1 := wbits_ok [] 1 3 (by decide) (by decide) (by decide)
 rw [List.nil_append, show ((1 : Nat) : Int) = 1 from rfl, show ((3 : Nat) : Int) = 3 from rfl] at hb1
 rw [show ((2 : Nat) : Int) = 2 from rfl] at hl1 hl2
 have hb2 := wbytes_ok (lowB 1 3) (litB s.length 2 ++ litB (65535 - s.length) 2 ++ s) (by rw [low_len]; decide) (by simp only [List.length_append, litB_len]; omega)
 have hb3 := wtext_ok (storedB s) (by
  unfold storedB
  rw [List.length_append, al_len, low_len, rest_len]
  simp only [List.length_append, litB_len]
  omega)
 unfold storedT at hR
 simp (disch := omega) only [go_sem, simprocAttr]
 refine vcW_loop hN (fun _ : Unit => ⟨[(0, .str s), (3, .vptr WR 0)], wrH []⟩) (fun _ => True) (fun _ => 0) () (.ren 167003 WR rfl rfl (.nilV WR 0 WO 1 [.nilsl, .int .u64 0, .int .i64 0] rfl rfl rfl (.le ?_))) trivial ?_
 ·simp (disch := omega) only [go_sem, simprocAttr, wrH, wrK, wrA, numB, packN]
  simp
 rintro _ R1 _ hR1
 simp (disch := omega) only [go_sem, simprocAttr, Cod.wstored_jn, hmin]
 refine vcW_mid hN ?_
 simp (disch := omega) only [go_sem, simprocAttr]
 refine call_win (wrH []) hb1 (by simp (disch := omega) only [go_sem, simprocAttr, wrH, wrK, wrA]) nofun ?_
 rintro h' v ar ⟨rfl, rfl, rfl⟩
 refine ⟨by simp (disch := omega) only [go_sem, simprocAttr, wrH, wrK, wrA], rfl, ?_⟩
 simp (disch := omega) only [go_sem, simprocAttr, hx, htk, hmin, wrH, wrK, wrA]
 refine call_ro hl1 rfl rfl ?_
 simp (disch := omega) only [go_sem, simprocAttr]
 refine call_ro hl2 rfl rfl ?_
 simp (disch := omega) only [go_sem, simprocAttr, hll1, hll2]
 refine call_win (wrH (lowB 1 3)) hb2 (by simp (disch := omega) only [go_sem, simprocAttr, wrH, wrK, wrA]) nofun ?_
 rintro h' v ar ⟨rfl, rfl, rfl⟩
 refine ⟨by simp (disch := omega) only [go_sem, simprocAttr, wrH, wrK, wrA], rfl, ?_⟩
 simp (disch := omega) only [go_sem, simprocAttr, wrH, wrK, wrA]
 refine call_win (wrH (storedB s)) hb3 (by simp (disch := omega) only [go_sem, simprocAttr, wrH, wrK, wrA, storedB]) nofun ?_
 rintro h' v ar ⟨rfl, rfl, rfl⟩
 refine ⟨by simp (disch := omega) only [go_sem, simprocAttr, wrH, wrK, wrA], rfl, ?_⟩
 simp (disch := omega) only [go_sem, simprocAttr]
 exact hR.ro ⟨rfl, rfl⟩
end Go.Proofs.YtjoefngnjoofeaaDoor.Pk
namespace Go.Proofs.YtjoefngnjoofeaaDoor.Pk
open Eng
set_option maxRecDepth 10000
theorem fixL_len : fixL.length = 288 := by decide +kernel
theorem fixL_le : ∀ n ∈ fixL, n ≤ 15 := by decide +kernel
theorem fixL_chk : chkL fixL = true := by decide +kernel
theorem fixL_pos : ∀ s, s < 288 → 1 ≤ fixL.getD s 0 := by decide +kernel
theorem fixD_len : fixD.length = 32 := by decide +kernel
theorem fixD_le : ∀ n ∈ fixD, n ≤ 15 := by decide +kernel
theorem fixD_chk : chkL fixD = true := by decide +kernel
theorem fixD_pos : ∀ s, s < 32 → 1 ≤ fixD.getD s 0 := by decide +kernel
theorem lenB_le : ∀ i, i ≤ 28 → (lenB i).1 ≤ 258 ∧ (lenB i).2 ≤ 5 := by decide +kernel
theorem disB_le : ∀ i, i ≤ 29 → (disB i).1 ≤ 32768 ∧ (disB i).2 ≤ 13 := by decide +kernel
structure RepOK (s : Bs) (p n b : Nat) : Prop where
 n3 : 3 ≤ n
 n258 : n ≤ 258
 b1 : 1 ≤ b
 b32 : b ≤ 32768
 bp : b ≤ p
 len : p + n ≤ s.length
 eq : ∀ t, t < n → s.getD (p - b + t) 0 = s.getD (p + t) 0
structure SymOK (n b i j : Nat) : Prop where
 i28 : i ≤ 28
 il : (lenB i).1 ≤ n
 iu : ∀ k, i < k → k ≤ 28 → n < (lenB k).1
 j29 : j ≤ 29
 jl : (disB j).1 ≤ b
 ju : ∀ k, j < k → k ≤ 29 → b < (disB k).1
def repB (n b i j : Nat) : List Bool := codeL fixL (257 + i) ++ lowB (n - (lenB i).1) (lenB i).2 ++ codeL fixD j ++ lowB (b - (disB j).1) (disB j).2
inductive Enc (s : Bs) : Nat → List Bool → Prop
 | nil : Enc s 0 (lowB 3 3)
 | lit (p : Nat) (bs : List Bool) : Enc s p bs → p < s.length → Enc s (p + 1) (bs ++ codeL fixL (s.getD p 0).toNat)
 | rep (p : Nat) (bs : List Bool) (n b i j : Nat) : Enc s p bs → RepOK s p n b → SymOK n b i j → Enc s (p + n) (bs ++ repB n b i j)
theorem fixL_15 (s : Nat) : (codeL fixL s).length ≤ 15 := by rw [code_len]; exact len15 fixL_le s
theorem fixD_15 (s : Nat) : (codeL fixD s).length ≤ 15 := by rw [code_len]; exact len15 fixD_le s
theorem rep_len {n b i j : Nat} (h : SymOK n b i j) : (repB n b i j).length ≤ 48 := by
 have h1 := fixL_15 (257 + i)
 have h2 := fixD_15 j
 have h3 := lenB_le i h.i28
 have h4 := disB_le j h.j29
 simp only [repB, List.length_append, low_len]
 omega
theorem enc_len {s : Bs} {p : Nat} {bs : List Bool} (h : Enc s p bs) : bs.length ≤ 3 + 48 * p := by
 induction h with
 | nil => rw [low_len]; omega
 | lit p bs h hp ih =>
  have := fixL_15 (s.getD p 0).toNat
  rw [List.length_append]; omega
 | rep p bs n b i j h hr hs ih =>
  have := rep_len hs
  have := hr.n3
  rw [List.length_append]; omega
def DeflP (s t : Bs) : Prop := (∃ bs, Enc s s.length bs ∧ t = textB (bs ++ codeL fixL 256) ∧ t.length < s.length + 5) ∨ t = storedT s
theorem defl_len {s t : Bs} (h : DeflP s t) : t.length ≤ s.length + 5 := by
 rcases h with ⟨_, _, _, h⟩ | rfl
 ·omega
 ·rw [storedT_len]; omega
def PlOK (l : List (MK × AV)) (p : Nat) : Prop := ∀ kv ∈ l, ∃ n : Nat, kv.2 = .int .i64 n ∧ n < p
theorem pl_find {k : MK} {v : AV} : ∀ {l : List (MK × AV)}, mfind l k = some v → ∃ k', (k', v) ∈ l
 | (k0, v0) :: r, h => by
  simp only [mfind] at h
  split at h
  ·exact ⟨k0, by rw [← Option.some.inj h]; exact List.mem_cons_self ..⟩
  ·obtain ⟨k', h'⟩ := pl_find h; exact ⟨k', List.mem_cons_of_mem _ h'⟩
theorem pl_put {k : MK} {v : AV} : ∀ {l : List (MK × AV)} {x : MK × AV}, x ∈ mput l k v → x ∈ l ∨ x = (k, v)
 | [], x, h => .inr (by simpa [mput] using h)
 | (k0, v0) :: r, x, h => by
  simp only [mput] at h
  split at h
  ·rcases List.mem_cons.1 h with h | h
   ·exact .inr h
   ·exact .inl (List.mem_cons_of_mem _ h)
  ·rcases List.mem_cons.1 h with h | h
   ·exact .inl (by rw [h]; exact List.mem_cons_self ..)
   ·rcases pl_put h with h | h
    ·exact .inl (List.mem_cons_of_mem _ h)
    ·exact .inr h
theorem pl_up {l : List (MK × AV)} {p q : Nat} (h : PlOK l p) (hpq : p ≤ q) : PlOK l q := fun kv hk => by
 obtain ⟨n, h1, h2⟩ := h kv hk
 exact ⟨n, h1, by omega⟩
theorem pl_step {l : List (MK × AV)} {p : Nat} {k : MK} (h : PlOK l p) : PlOK (mput l k (.int .i64 p)) (p + 1) := fun kv hk => by
 rcases pl_put hk with hk | rfl
 ·obtain ⟨n, h1, h2⟩ := h kv hk
  exact ⟨n, h1, by omega⟩
 ·exact ⟨p, rfl, by omega⟩
def hD (bs : List Bool) (l : List (MK × AV)) : HP := [(WR, .var (wrA bs (bs.length / 8))), (WO, .arr 1 ((packN bs (bs.length / 8)).map ub)), (168027, .mp none l)]
theorem wcodeL (l : List Nat) (s : Nat) (bs : List Bool) (hl : ∀ n ∈ l, n ≤ 15) (hck : chkL l = true) (hs : s < l.length) (h1 : 1 ≤ l.getD s 0) (hb : bs.length ≤ 10000000000) :
    Eng.Spec Tryd.prog 55 (wrH bs) [.vptr WR 0, .int .u32 (cwL l s : Nat), .int .i64 (l.getD s 0 : Nat)]
     (fun h' v ar => h' = wrH (bs ++ codeL l s) ∧ v = .tup [] ∧ ar = [.vptr WR 0, .int .u32 (cwL l s : Nat), .int .i64 (l.getD s 0 : Nat)]) := by
 have hc : totL l ≤ 32768 := by unfold chkL at hck; simp at hck; exact hck.1
 have h15 := len15 hl s
 have hlt := cw_lt hc hs h1 h15
 have hp : 2 ^ l.getD s 0 ≤ 2 ^ 15 := Nat.pow_le_pow_right (by decide) h15
 have := wcode_ok bs (cwL l s) (l.getD s 0) (by omega) (by omega) (by omega)
 rw [show bitsM (cwL l s) (l.getD s 0) = codeL l s by unfold codeL; rw [if_neg (by omega)]] at this
 exact this
set_option maxHeartbeats 4000000 in
theorem ideflate_ok (s : Bs) (hs : s.length ≤ 65535) : Eng.Spec Tryd.prog 34 [] [.str s] (fun h r _ => h = [] ∧ ∃ t, DeflP s t ∧ r = .str t) := by
 refine Cod.ideflate_spec (fun E R hN hR => ?_)
 have hbh := wbits_ok [] 3 3 (by decide) (by decide) (by decide)
 rw [List.nil_append, show ((3 : Nat) : Int) = 3 from rfl] at hbh
 have hcL : ∀ k : Nat, k < 288 → SpecR Tryd.prog 54 [tblA fixL, .int .i64 k] (.tup [.int .u32 (cwL fixL k : Nat), .int .i64 (fixL.getD k 0 : Nat)]) := fun k hk => hcode_ok fixL fixL_le (by rw [fixL_len]; decide) fixL_chk k (by rw [fixL_len]; exact hk) (fixL_pos k hk)
 have hcD : ∀ k : Nat, k < 32 → SpecR Tryd.prog 54 [tblA fixD, .int .i64 k] (.tup [.int .u32 (cwL fixD k : Nat), .int .i64 (fixD.getD k 0 : Nat)]) := fun k hk => hcode_ok fixD fixD_le (by rw [fixD_len]; decide) fixD_chk k (by rw [fixD_len]; exact hk) (fixD_pos k hk)
 have hfx := ifixed_ok
 unfold tblA at hcL hcD hfx
 generalize AV.agg (tblC fixL) = TL at *
 generalize AV.agg (tblC fixD) = TD at *
 simp (disch := omega) only [go_sem, simprocAttr]
 refine call_wk ⟨[(0, .str s), (3, .vptr WR 0)], wrH []⟩ (.ren 168003 WR rfl rfl (.nilV WR 0 WO 1 [.nilsl, .int .u64 0, .int .i64 0] rfl rfl rfl (.le ?_))) rfl ?_
 ·simp (disch := omega) only [go_sem, simprocAttr, wrH, wrK, wrA, numB, packN]
  simp
 refine call_ro hfx rfl rfl ?_
 simp (disch := omega) only [go_sem, simprocAttr]
 refine call_win (wrH []) hbh (by simp (disch := omega) only [go_sem, simprocAttr, wrH, wrK, wrA]) nofun ?_
 rintro h' v ar ⟨rfl, rfl, rfl⟩
 refine ⟨by simp (disch := omega) only [go_sem, simprocAttr, wrH, wrK, wrA], rfl, ?_⟩
 simp (disch := omega) only [go_sem, simprocAttr]
 refine vcW_loop hN (fun q : Nat × List Bool × List (MK × AV) => ⟨[(0, .str s), (3, .vptr WR 0), (4, .elt TL), (5, .elt TD), (6, .ptr 168027 0 0), (7, .int .i64 q.1)], hD q.2.1 q.2.2⟩) (fun q => q.1 ≤ s.length ∧ Enc s q.1 q.2.1 ∧ PlOK q.2.2 q.1) (fun q => s.length - q.1) (0, lowB 3 3, []) (.le ?_) ⟨by omega, .nil, fun kv hk => by cases hk⟩ ?_
 ·simp (disch := omega) only [go_sem, simprocAttr, hD, wrH, wrK, wrA]
 rintro ⟨p, bs, l⟩ R1 ⟨hp, henc, hpl⟩ hR1
 simp only at hp henc hpl
 have hbl := enc_len henc
 by_cases hlt : p < s.length
 ·simp (disch := omega) only [go_sem, simprocAttr]
  refine vcW_cut hN (fun q : Nat × Nat × List (MK × AV) => ⟨[(0, .str s), (3, .vptr WR 0), (4, .elt TL), (5, .elt TD), (6, .ptr 168027 0 0), (7, .int .i64 p), (8, .int .i64 q.1), (9, .int .i64 q.2.1)], hD bs q.2.2⟩) (fun q => PlOK q.2.2 (p + 1) ∧ (q.1 < 3 ∨ RepOK s p q.1 q.2.1)) (fun R2 hR2 => ?_) ?_
  ·by_cases h3 : p + 3 ≤ s.length
   ·simp (disch := omega) only [go_sem, simprocAttr]
    refine vcW_cut hN (fun q : Nat × Nat => ⟨[(0, .str s), (3, .vptr WR 0), (4, .elt TL), (5, .elt TD), (6, .ptr 168027 0 0), (7, .int .i64 p), (8, .int .i64 q.1), (9, .int .i64 q.2)], hD bs l⟩) (fun q => q.1 < 3 ∨ RepOK s p q.1 q.2) (fun R3 hR3 => ?_) ?_
    ·cases hf : mfind l (MK.s (List.take (((p : Int) + 3).toNat - p) (List.drop p s))) with
     | none =>
      simp (disch := omega) only [go_sem, simprocAttr, hD, hf]
      (repeat (first | refine gskip_of ?_ | refine gcskip_of ?_ | refine gopen_of ?_) <;> simp (disch := omega) only [go_sem, simprocAttr])
      exact hR3 (0, 0) _ (.inl (by decide)) (.le (by simp (disch := omega) only [go_sem, simprocAttr, hD]))
     | some v =>
      obtain ⟨k', hk'⟩ := pl_find hf
      obtain ⟨a, ha, hat⟩ := hpl _ hk'
      simp only at ha
      subst ha
      by_cases h32 : p - a ≤ 32768
      ·have h32' : (p : Int) - (a : Int) ≤ 32768 := by omega
       simp (disch := omega) only [go_sem, simprocAttr, hD, hf, h32']
       (repeat (first | refine gskip_of ?_ | refine gcskip_of ?_ | refine gopen_of ?_) <;> simp (disch := omega) only [go_sem, simprocAttr])
       refine vcW_loop hN (fun n : Nat => ⟨[(0, .str s), (3, .vptr WR 0), (4, .elt TL), (5, .elt TD), (6, .ptr 168027 0 0), (7, .int .i64 p), (8, .int .i64 n), (10, .int .i64 a)], hD bs l⟩) (fun n => n ≤ 258 ∧ p + n ≤ s.length ∧ ∀ t, t < n → s.getD (a + t) 0 = s.getD (p + t) 0) (fun n => 258 - n) 0 (.le (by simp (disch := omega) only [go_sem, simprocAttr, hD])) ⟨by omega, by omega, fun t ht => by omega⟩ ?_
       rintro n R4 ⟨hn1, hn2, hn3⟩ hR4
       have fin : n < 3 ∨ RepOK s p n (p - a) := by
        by_cases h : n < 3
        ·exact .inl h
        ·exact .inr ⟨by omega, hn1, by omega, h32, by omega, hn2, fun t ht => by rw [show p - (p - a) + t = a + t by omega]; exact hn3 t ht⟩
       have ei1 : ((a : Int) + (n : Int)).toNat = a + n := by omega
       have ei2 : ((p : Int) + (n : Int)).toNat = p + n := by omega
       have ep : ((p - a : Nat) : Int) = (p : Int) - (a : Int) := by omega
       have hgo := hR3 (n, p - a)
       by_cases g1 : n < 258
       ·by_cases g2 : p + n < s.length
        ·by_cases g3 : s.getD (a + n) 0 = s.getD (p + n) 0
         ·have g3' : ((s.getD (a + n) 0).toNat : Int) = ((s.getD (p + n) 0).toNat : Int) := by rw [g3]
          simp (disch := omega) only [go_sem, simprocAttr, ei1, ei2, g3']
          (repeat (first | refine gskip_of ?_ | refine gcskip_of ?_ | refine gopen_of ?_) <;> simp (disch := omega) only [go_sem, simprocAttr])
          exact hR4 (n + 1) _ (by omega) ⟨by omega, by omega, fun t ht => by
           by_cases e : t = n
           ·subst e; exact g3
           ·exact hn3 t (by omega)⟩ (.le (by simp (disch := omega) only [go_sem, simprocAttr, hD]))
         ·have g3' : ¬ ((s.getD (a + n) 0).toNat : Int) = ((s.getD (p + n) 0).toNat : Int) := fun e => g3 (UInt8.toNat_inj.1 (by omega))
          simp (disch := omega) only [go_sem, simprocAttr, ei1, ei2, g3']
          (repeat (first | refine gskip_of ?_ | refine gcskip_of ?_ | refine gopen_of ?_) <;> simp (disch := omega) only [go_sem, simprocAttr])
          exact hgo _ fin (.le (by simp (disch := omega) only [go_sem, simprocAttr, hD, ep]))
        ·simp (disch := omega) only [go_sem, simprocAttr]
         (repeat (first | refine gskip_of ?_ | refine gcskip_of ?_ | refine gopen_of ?_) <;> simp (disch := omega) only [go_sem, simprocAttr])
         exact hgo _ fin (.le (by simp (disch := omega) only [go_sem, simprocAttr, hD, ep]))
       ·simp (disch := omega) only [go_sem, simprocAttr]
        (repeat (first | refine gskip_of ?_ | refine gcskip_of ?_ | refine gopen_of ?_) <;> simp (disch := omega) only [go_sem, simprocAttr])
        exact hgo _ fin (.le (by simp (disch := omega) only [go_sem, simprocAttr, hD, ep]))
      ·have h32' : ¬ (p : Int) - (a : Int) ≤ 32768 := by omega
       simp (disch := omega) only [go_sem, simprocAttr, hD, hf, h32']
       (repeat (first | refine gskip_of ?_ | refine gcskip_of ?_ | refine gopen_of ?_) <;> simp (disch := omega) only [go_sem, simprocAttr])
       exact hR3 (0, 0) _ (.inl (by decide)) (.le (by simp (disch := omega) only [go_sem, simprocAttr, hD]))
    ·rintro ⟨n, b⟩ hnb
     simp only at hnb
     simp (disch := omega) only [go_sem, simprocAttr, hD]
     exact hR2 (n, b, mput l (MK.s (List.take (((p : Int) + 3).toNat - p) (List.drop p s))) (.int .i64 p)) _ ⟨pl_step hpl, hnb⟩ (.le (by simp (disch := omega) only [go_sem, simprocAttr, hD]))
   ·simp (disch := omega) only [go_sem, simprocAttr]
    exact hR2 (0, 0, l) _ ⟨pl_up hpl (by omega), .inl (show (0 : Nat) < 3 by decide)⟩ (.le (by simp (disch := omega) only [go_sem, simprocAttr, hD]))
  ·rintro ⟨n, b, l'⟩ ⟨hpl', hnb⟩
   simp only at hpl' hnb
   by_cases hn : n < 3
   ·have hc := (s.getD p 0).toNat_lt
    have hw : IntKind.i64.wrap ((s.getD p 0).toNat : Int) = ((s.getD p 0).toNat : Int) := IntWalk.i64_in _ (by omega)
    have hcode := hcL (s.getD p 0).toNat (by omega)
    have hwr := wcodeL fixL (s.getD p 0).toNat bs fixL_le fixL_chk (by rw [fixL_len]; omega) (fixL_pos _ (by omega)) (by omega)
    simp (disch := omega) only [go_sem, simprocAttr, hw]
    refine call_ro hcode rfl rfl ?_
    simp (disch := omega) only [go_sem, simprocAttr]
    refine call_win (wrH bs) hwr (by simp (disch := omega) only [go_sem, simprocAttr, hD, wrH, wrK, wrA]) nofun ?_
    rintro h' v ar ⟨rfl, rfl, rfl⟩
    refine ⟨by simp (disch := omega) only [go_sem, simprocAttr, wrH, wrK, wrA], rfl, ?_⟩
    simp (disch := omega) only [go_sem, simprocAttr, hD]
    exact hR1 (p + 1, _, l') _ (by simp only; omega) ⟨by simp only; omega, .lit p bs henc hlt, hpl'⟩ (.le (by simp (disch := omega) only [go_sem, simprocAttr, hD, wrH, wrK, wrA]))
   ·have hrep := hnb.resolve_left hn
    have hn258 := hrep.n258
    have hb32 := hrep.b32
    have hplen := hrep.len
    have hs1 := isym_ok 57 28 n lenB (by kernel_rfl) (by decide) (by omega) (fun i hi => ilenb_ok i hi) (by have := hrep.n3; simp [lenB]; omega) (fun i hi => by have := lenB_le i hi; omega)
    have hs2 := isym_ok 58 29 b disB (by kernel_rfl) (by decide) (by omega) (fun i hi => idisb_ok i hi) (by have := hrep.b1; simp [disB]; omega) (fun i hi => by have := disB_le i hi; omega)
    rw [show ((28 : Nat) : Int) = 28 from rfl] at hs1
    rw [show ((29 : Nat) : Int) = 29 from rfl] at hs2
    simp (disch := omega) only [go_sem, simprocAttr]
    refine call_ro' hs1 rfl ?_
    rintro h' v ar ⟨rfl, i, hi, hil, hiu, rfl⟩
    refine ⟨rfl, rfl, ?_⟩
    have hi5 := lenB_le i hi
    have hcode := hcL (257 + i) (by omega)
    have hw1 := wcodeL fixL (257 + i) bs fixL_le fixL_chk (by rw [fixL_len]; omega) (fixL_pos _ (by omega)) (by omega)
    have hl1 := fixL_15 (257 + i)
    have hw2 := wbits_ok (bs ++ codeL fixL (257 + i)) (n - (lenB i).1) (lenB i).2 (by omega) (by omega) (by rw [List.length_append]; omega)
    rw [show ((257 + i : Nat) : Int) = 257 + (i : Int) by push_cast; rfl] at hcode
    simp (disch := omega) only [go_sem, simprocAttr]
    refine call_ro hcode rfl rfl ?_
    simp (disch := omega) only [go_sem, simprocAttr]
    refine call_win (wrH bs) hw1 (by simp (disch := omega) only [go_sem, simprocAttr, hD, wrH, wrK, wrA]) nofun ?_
    rintro h' v ar ⟨rfl, rfl, rfl⟩
    refine ⟨by simp (disch := omega) only [go_sem, simprocAttr, wrH, wrK, wrA], rfl, ?_⟩
    simp (disch := omega) only [go_sem, simprocAttr, hD]
    refine call_win (wrH (bs ++ codeL fixL (257 + i))) hw2 (by simp (disch := omega) only [go_sem, simprocAttr, hD, wrH, wrK, wrA]) nofun ?_
    rintro h' v ar ⟨rfl, rfl, rfl⟩
    refine ⟨by simp (disch := omega) only [go_sem, simprocAttr, wrH, wrK, wrA], rfl, ?_⟩
    simp (disch := omega) only [go_sem, simprocAttr]
    refine call_ro' hs2 rfl ?_
    rintro h' v ar ⟨rfl, j, hj, hjl, hju, rfl⟩
    refine ⟨rfl, rfl, ?_⟩
    have hj5 := disB_le j hj
    have hcode2 := hcD j (by omega)
    have hl2 := fixD_15 j
    have hb2 : (bs ++ codeL fixL (257 + i) ++ lowB (n - (lenB i).1) (lenB i).2).length ≤ 9999999999 := by simp only [List.length_append, low_len]; omega
    generalize hbs2 : bs ++ codeL fixL (257 + i) ++ lowB (n - (lenB i).1) (lenB i).2 = bs2 at *
    have hw3 := wcodeL fixD j bs2 fixD_le fixD_chk (by rw [fixD_len]; omega) (fixD_pos _ (by omega)) (by omega)
    have hw4 := wbits_ok (bs2 ++ codeL fixD j) (b - (disB j).1) (disB j).2 (by omega) (by omega) (by rw [List.length_append]; omega)
    simp (disch := omega) only [go_sem, simprocAttr]
    refine call_ro hcode2 rfl rfl ?_
    simp (disch := omega) only [go_sem, simprocAttr]
    refine call_win (wrH bs2) hw3 (by simp (disch := omega) only [go_sem, simprocAttr, hD, wrH, wrK, wrA]) nofun ?_
    rintro h' v ar ⟨rfl, rfl, rfl⟩
    refine ⟨by simp (disch := omega) only [go_sem, simprocAttr, wrH, wrK, wrA], rfl, ?_⟩
    simp (disch := omega) only [go_sem, simprocAttr, hD]
    refine call_win (wrH (bs2 ++ codeL fixD j)) hw4 (by simp (disch := omega) only [go_sem, simprocAttr, hD, wrH, wrK, wrA]) nofun ?_
    rintro h' v ar ⟨rfl, rfl, rfl⟩
    refine ⟨by simp (disch := omega) only [go_sem, simprocAttr, wrH, wrK, wrA], rfl, ?_⟩
    simp (disch := omega) only [go_sem, simprocAttr]
    have henc2 := Enc.rep p bs n b i j henc hrep ⟨hi, hil, hiu, hj, hjl, hju⟩
    have heq : bs ++ repB n b i j = bs2 ++ codeL fixD j ++ lowB (b - (disB j).1) (disB j).2 := by rw [← hbs2]; simp [repB]
    rw [heq] at henc2
    exact hR1 (p + n, _, l') _ (by have := hrep.n3; simp only; omega) ⟨by simp only; omega, henc2, pl_up hpl' (by have := hrep.n3; simp only; omega)⟩ (.le (by simp (disch := omega) only [go_sem, simprocAttr, hD, wrH, wrK, wrA]))
 ·obtain rfl : p = s.length := by omega
  have hcode := hcL 256 (by decide)
  have hw := wcodeL fixL 256 bs fixL_le fixL_chk (by rw [fixL_len]; decide) (fixL_pos _ (by decide)) (by omega)
  have hl1 := fixL_15 256
  have ht := wtext_ok (bs ++ codeL fixL 256) (by rw [List.length_append]; omega)
  have hst := wstored_ok s hs
  have hsl := storedT_len s
  rw [show ((256 : Nat) : Int) = 256 from rfl] at hcode
  simp (disch := omega) only [go_sem, simprocAttr]
  refine call_ro hcode rfl rfl ?_
  simp (disch := omega) only [go_sem, simprocAttr]
  refine call_win (wrH bs) hw (by simp (disch := omega) only [go_sem, simprocAttr, hD, wrH, wrK, wrA]) nofun ?_
  rintro h' v ar ⟨rfl, rfl, rfl⟩
  refine ⟨by simp (disch := omega) only [go_sem, simprocAttr, wrH, wrK, wrA], rfl, ?_⟩
  simp (disch := omega) only [go_sem, simprocAttr, hD]
  refine call_win (wrH (bs ++ codeL fixL 256)) ht (by simp (disch := omega) only [go_sem, simprocAttr, hD, wrH, wrK, wrA]) nofun ?_
  rintro h' v ar ⟨rfl, rfl, rfl⟩
  refine ⟨by simp (disch := omega) only [go_sem, simprocAttr, wrH, wrK, wrA], rfl, ?_⟩
  simp (disch := omega) only [go_sem, simprocAttr]
  refine call_ro hst rfl rfl ?_
  by_cases hlen : (textB (bs ++ codeL fixL 256)).length < s.length + 5
  ·simp (disch := omega) only [go_sem, simprocAttr, hsl]
   exact hR.ro ⟨rfl, _, .inl ⟨bs, henc, rfl, hlen⟩, rfl⟩
  ·simp (disch := omega) only [go_sem, simprocAttr, hsl]
   refine call_ro hst rfl rfl ?_
   simp (disch := omega) only [go_sem, simprocAttr]
   exact hR.ro ⟨rfl, _, .inr rfl, rfl⟩
end Go.Proofs.YtjoefngnjoofeaaDoor.Pk
namespace Go.Proofs.YtjoefngnjoofeaaDoor.Cod
open Eng Eng.Kz
set_option maxRecDepth 100000
abbrev pbyte_3 : AK := .seq (.reg [u 140021 21 (.mov (.t 0)), u 140022 22 (.nilc (.t 21)), u 140023 23 (.fldA false 0 1 (.t 22)), u 140024 24 (.ld false 1 (.t 23)), u 140025 25 (.mov (.t 0)), u 140026 26 (.nilc (.t 25)), u 140027 27 (.fldA false 1 1 (.t 26)), u 140028 28 (.ld false 1 (.t 27)), u 140029 29 (.bin .sub (.t 28) (ci 1)), .v 30 (.sidx (.t 24) (.t 29)), .v 31 (.cvi .i64 (.t 30)), m 2 31] [2,2000000]) .ret
abbrev pbyte_2 : AK := .seq (.reg [m 14 0, .v 15 (.nilc (.t 14)), .v 16 (.fldA false 1 1 (.t 15)), .v 17 (.ld false 1 (.t 16)), bi 18 .add 17 1, .v 19 (.nilc (.t 14)), .v 20 (.fldA false 1 1 (.t 19)), .effN false 140000 (.st 1 (.t 20) (.t 18))] [0,2000000]) pbyte_3
abbrev pbyte_6 : AK := .regD [.v 13 (.mki 61 (ci 6))] (.effN false 140000 (.pnc (.t 13))) [] [0,2000000]
abbrev pbyte_4 : AK := .seq (.reg [u 140003 3 (.mov (.t 0)), u 140004 4 (.nilc (.t 3)), u 140005 5 (.fldA false 1 1 (.t 4)), u 140006 6 (.ld false 1 (.t 5)), u 140007 7 (.mov (.t 0)), u 140008 8 (.nilc (.t 7)), u 140009 9 (.fldA false 0 1 (.t 8)), u 140010 10 (.ld false 1 (.t 9)), u 140011 11 (.len true (.t 10)), b 12 .geq 6 11] [0,2,12,2000000]) (.cond (.t 12) pbyte_6 .skip)
abbrev pbyte_1 : AK := .seq pbyte_4 pbyte_2
abbrev pbyte_0 : AK := .seq (.reg [k 2 (ci 0)] [0,2,2000000]) pbyte_1
abbrev pbyte : AK := pbyte_0
theorem pbyte_fn : FnOK Tryd.prog 42 140000 1 pbyte [.tmp 2] := ⟨_, Tryd.func42, by kernel_rfl⟩
theorem pbyte_dies {h : HP} {a0 : AV} {V : Value} (hp : HpX Tryd.prog pbyte V [(0, a0), (2000000, a0)] h) : Eng.SpecDies Tryd.prog 42 h [a0] V := spec_fnX pbyte_fn rfl [(0, a0), (2000000, a0)] ⟨rfl, rfl, trivial⟩ hp
theorem pbyte_spec {h : HP} {a0 : AV} {Post : HP → AV → List AV → Prop} (hp : HpN Tryd.prog pbyte [.tmp 2] 1 [(0, a0), (2000000, a0)] h Post) : Eng.Spec Tryd.prog 42 h [a0] Post := spec_fn pbyte_fn rfl [(0, a0), (2000000, a0)] ⟨rfl, rfl, trivial⟩ hp
abbrev phead_4 : AK := .seq (.reg [m 30 5, m 31 6, m 2 30, m 3 31] [2,3,2000000]) .ret
abbrev phead_11 : AK := .reg [m 28 7, bi 29 .add 28 7, m 7 29] [0,2,3,4,5,6,7,2000000]
abbrev phead_10 : AK := .seq (.reg [m 22 6, m 23 4, bi 24 .and 23 127, m 25 7, b 26 .shl 24 25, b 27 .or 22 26, m 6 27] [0,2,3,4,5,6,7,2000000]) phead_11
abbrev phead_14 : AK := .regD [.v 21 (.mki 61 (ci 3))] (.effN false 141000 (.pnc (.t 21))) [] [0,2,3,4,5,6,7,2000000]
abbrev phead_12 : AK := .seq (.reg [m 19 7, bi 20 .gtr 19 25] [0,2,3,4,5,6,7,20,2000000]) (.cond (.t 20) phead_14 .skip)
abbrev phead_9 : AK := .seq phead_12 phead_10
abbrev phead_15 : AK := .regD [m 17 0] (.cal (some 18) false 141018 42 [(.t 17)]) [m 4 18] [0,2,3,4,5,6,7,2000000]
abbrev phead_8 : AK := .seq phead_15 phead_9
abbrev phead_16 : AK := .seq (.reg [m 15 4, bi 16 .geq 15 128] [0,2,3,5,6,7,16,2000000]) (.cond (.t 16) .skip (.exit 0))
abbrev phead_6 : AK := .seq phead_16 (.block 1 phead_8)
abbrev phead_L0 : AK := .loop phead_6
abbrev phead_3 : AK := .seq (.block 0 phead_L0) phead_4
abbrev phead_2 : AK := .seq (.reg [m 10 4, .v 11 (.bin .shr (.t 10) (.c (.int .u64 4))), bi 12 .and 11 7, m 13 4, bi 14 .and 13 15, m 5 12, m 6 14, k 7 (ci 4)] [0,2,3,4,5,6,7,2000000]) phead_3
abbrev phead_18 : AK := .regD [m 8 0] (.cal (some 9) false 141009 42 [(.t 8)]) [m 4 9] [0,2,3,4,2000000]
abbrev phead_1 : AK := .seq phead_18 phead_2
abbrev phead_0 : AK := .seq (.reg [k 2 (ci 0), k 3 (ci 0)] [0,2,3,2000000]) phead_1
abbrev phead : AK := phead_0
theorem phead_fn : FnOK Tryd.prog 24 141000 1 phead [.tmp 2, .tmp 3] := ⟨_, Tryd.func24, by kernel_rfl⟩
theorem phead_dies {h : HP} {a0 : AV} {V : Value} (hp : HpX Tryd.prog phead V [(0, a0), (2000000, a0)] h) : Eng.SpecDies Tryd.prog 24 h [a0] V := spec_fnX phead_fn rfl [(0, a0), (2000000, a0)] ⟨rfl, rfl, trivial⟩ hp
theorem phead_spec {h : HP} {a0 : AV} {Post : HP → AV → List AV → Prop} (hp : HpN Tryd.prog phead [.tmp 2, .tmp 3] 1 [(0, a0), (2000000, a0)] h Post) : Eng.Spec Tryd.prog 24 h [a0] Post := spec_fn phead_fn rfl [(0, a0), (2000000, a0)] ⟨rfl, rfl, trivial⟩ hp
abbrev pback_4 : AK := .seq (.reg [m 22 4, m 2 22] [2,2000000]) .ret
abbrev pback_10 : AK := .reg [m 16 4, bi 17 .add 16 1, .v 18 (.bin .shl (.t 17) (.c (.int .u64 7))), m 19 3, bi 20 .and 19 127, b 21 .or 18 20, m 4 21] [0,2,3,4,2000000]
abbrev pback_11 : AK := .regD [m 14 0] (.cal (some 15) false 142015 42 [(.t 14)]) [m 3 15] [0,2,3,4,2000000]
abbrev pback_9 : AK := .seq pback_11 pback_10
abbrev pback_14 : AK := .regD [.v 13 (.mki 61 (ci 3))] (.effN false 142000 (.pnc (.t 13))) [] [0,2,4,2000000]
abbrev pback_12 : AK := .seq (.reg [m 11 4, bi 12 .gtr 11 16777216] [0,2,4,12,2000000]) (.cond (.t 12) pback_14 .skip)
abbrev pback_8 : AK := .seq pback_12 pback_9
abbrev pback_15 : AK := .seq (.reg [m 9 3, bi 10 .geq 9 128] [0,2,4,10,2000000]) (.cond (.t 10) .skip (.exit 0))
abbrev pback_6 : AK := .seq pback_15 (.block 1 pback_8)
abbrev pback_L0 : AK := .loop pback_6
abbrev pback_3 : AK := .seq (.block 0 pback_L0) pback_4
abbrev pback_2 : AK := .seq (.reg [m 7 3, bi 8 .and 7 127, m 4 8] [0,2,3,4,2000000]) pback_3
abbrev pback_17 : AK := .regD [m 5 0] (.cal (some 6) false 142006 42 [(.t 5)]) [m 3 6] [0,2,3,2000000]
abbrev pback_1 : AK := .seq pback_17 pback_2
abbrev pback_0 : AK := .seq (.reg [k 2 (ci 0)] [0,2,2000000]) pback_1
abbrev pback : AK := pback_0
theorem pback_fn : FnOK Tryd.prog 25 142000 1 pback [.tmp 2] := ⟨_, Tryd.func25, by kernel_rfl⟩
theorem pback_dies {h : HP} {a0 : AV} {V : Value} (hp : HpX Tryd.prog pback V [(0, a0), (2000000, a0)] h) : Eng.SpecDies Tryd.prog 25 h [a0] V := spec_fnX pback_fn rfl [(0, a0), (2000000, a0)] ⟨rfl, rfl, trivial⟩ hp
theorem pback_spec {h : HP} {a0 : AV} {Post : HP → AV → List AV → Prop} (hp : HpN Tryd.prog pback [.tmp 2] 1 [(0, a0), (2000000, a0)] h Post) : Eng.Spec Tryd.prog 25 h [a0] Post := spec_fn pback_fn rfl [(0, a0), (2000000, a0)] ⟨rfl, rfl, trivial⟩ hp
abbrev pread_0 : AK := .reg [.eff 4 false 143004 (.alloc [.int .i64 0, .int .i64 0, .int .i64 0, .str [], .int .i64 0, .str [], .int .u32 0]), .eff 5 false 143005 (.alloc [.int .i64 0])] [0,1,4,5,2000002,2000003]
abbrev pread_3 : AK := .seq (.reg [.v 22 (.bld [.int .i64 0, .int .i64 0, .int .i64 0, .str [], .int .i64 0, .str [], .int .u32 0] []), .effN false 143000 (.st 7 (.t 4) (.t 22)), .effN false 143000 (.st 1 (.t 5) (ci 1))] [4,5,2000002,2000003]) .ret
abbrev pread_1 : AK := .seq (.reg [m 13 1, bi 14 .lss 13 12, m 15 14, .gval 16 15 false false 143016 (.mov (.t 1)), .gval 17 15 false false 143017 (.mov (.t 0)), .gval 18 15 false false 143018 (.len true (.t 17)), .gval 19 15 false false 143019 (.bin .sub (.t 18) (ci 20)), .gval 20 15 false false 143020 (.bin .gtr (.t 16) (.t 19)), .v 21 (.pick (.t 15) (.c (.bool true)) (.t 20))] [0,1,4,5,21,2000002,2000003]) (.cond (.t 21) pread_3 .skip)
abbrev pread_17 : AK := .seq (.reg [.v 143 (.ld true 7 (.t 4)), .effN false 143000 (.st 7 (.t 4) (.t 143)), .effN false 143000 (.st 1 (.t 5) (ci 0))] [4,5,2000002,2000003]) .ret
abbrev pread_16 : AK := .seq (.reg [m 136 6, m 137 1, .v 138 (.fldA false 1 1 (.t 4)), .v 139 (.ld false 1 (.t 138)), .v 140 (.slcS (.t 136) (some (.t 137)) (some (.t 139))), .cal (some 141) false 143141 28 [(.t 140)], .v 142 (.fldA false 6 1 (.t 4)), .effN false 143000 (.st 1 (.t 142) (.t 141))] [4,5,2000002,2000003]) pread_17
abbrev pread_15 : AK := .seq (.reg [m 129 7, .v 130 (.nilc (.t 129)), .v 131 (.fldA false 1 1 (.t 130)), .v 132 (.ld false 1 (.t 131)), m 133 12, b 134 .add 132 133, .v 135 (.fldA false 1 1 (.t 4)), .effN false 143000 (.st 1 (.t 135) (.t 134))] [1,4,5,6,2000002,2000003]) pread_16
abbrev pread_14 : AK := .seq (.reg [m 127 11, .v 128 (.fldA false 3 1 (.t 4)), .effN false 143000 (.st 1 (.t 128) (.t 127))] [1,4,5,6,7,12,2000002,2000003]) pread_15
abbrev pread_20 : AK := .regD [.v 125 (.ld false 1 (.t 5)), .v 126 (.mki 61 (.t 125))] (.effN false 143000 (.pnc (.t 126))) [] [1,4,5,6,7,11,12,2000002,2000003]
abbrev pread_18 : AK := .seq (.reg [.v 123 (.ld false 1 (.t 5)), bi 124 .neq 123 0] [1,4,5,6,7,11,12,124,2000002,2000003]) (.cond (.t 124) pread_20 .skip)
abbrev pread_13 : AK := .seq pread_18 pread_14
abbrev pread_23 : AK := .reg [.effN false 143000 (.st 1 (.t 5) (ci 3))] [1,4,5,6,7,11,12,2000002,2000003]
abbrev pread_21 : AK := .seq (.reg [.v 111 (.ld false 1 (.t 5)), bi 112 .eql 111 2, m 113 112, .gval 114 113 false false 143114 (.ld false 1 (.t 5)), .gval 115 113 false false 143115 (.bin .eql (.t 114) (ci 0)), .gval 116 113 false false 143116 (.mov (.t 115)), .gval 117 116 true false 143117 (.mov (.t 11)), .gval 118 116 true false 143118 (.len true (.t 117)), .gval 119 116 true false 143119 (.mov (.t 9)), .gval 120 116 true false 143120 (.bin .lss (.t 118) (.t 119)), .gval 121 113 false false 143121 (.pick (.t 116) (.t 120) (.c (.bool false))), .v 122 (.pick (.t 113) (.c (.bool true)) (.t 121))] [1,4,5,6,7,11,12,122,2000002,2000003]) (.cond (.t 122) pread_23 .skip)
def pread_12 : AK := .seq pread_21 (.mid pread_13)
abbrev pread_11 : AK := .seq (.reg [m 101 6, m 102 7, .v 103 (.nilc (.t 102)), .v 104 (.fldA false 1 1 (.t 103)), .v 105 (.ld false 1 (.t 104)), m 106 9, .cal (some 107) false 143107 27 [(.t 101), (.t 105), (.t 106)], m 100 107, .v 108 (.ext (.t 100) 0), .v 109 (.ext (.t 100) 1), .v 110 (.ext (.t 100) 2), m 11 108, m 12 109, .effN false 143000 (.st 1 (.t 5) (.t 110))] [1,4,5,6,7,9,11,12,2000002,2000003]) pread_12
abbrev pread_26 : AK := .regD [.v 99 (.mki 61 (ci 2))] (.effN false 143000 (.pnc (.t 99))) [] [1,4,5,6,7,9,2000002,2000003]
abbrev pread_24 : AK := .seq (.reg [m 97 9, bi 98 .gtr 97 65000] [1,4,5,6,7,9,98,2000002,2000003]) (.cond (.t 98) pread_26 .skip)
abbrev pread_10 : AK := .seq pread_24 pread_11
abbrev pread_35 : AK := .reg [m 62 1, m 63 10, b 64 .sub 62 63, .v 65 (.fldA false 4 1 (.t 4)), .effN false 143000 (.st 1 (.t 65) (.t 64))] [1,4,5,6,7,9,2000002,2000003]
abbrev pread_38 : AK := .regD [.v 61 (.mki 61 (ci 3))] (.effN false 143000 (.pnc (.t 61))) [] [1,4,5,6,7,9,10,2000002,2000003]
abbrev pread_36 : AK := .seq (.reg [m 53 10, bi 54 .lss 53 1, m 55 54, .gval 56 55 false false 143056 (.mov (.t 10)), .gval 57 55 false false 143057 (.mov (.t 1)), .gval 58 55 false false 143058 (.bin .sub (.t 57) (ci 12)), .gval 59 55 false false 143059 (.bin .gtr (.t 56) (.t 58)), .v 60 (.pick (.t 55) (.c (.bool true)) (.t 59))] [1,4,5,6,7,9,10,60,2000002,2000003]) (.cond (.t 60) pread_38 .skip)
abbrev pread_34 : AK := .seq pread_36 pread_35
abbrev pread_39 : AK := .regD [m 51 7] (.cal (some 52) false 143052 25 [(.t 51)]) [m 10 52] [1,4,5,6,7,9,10,2000002,2000003]
abbrev pread_33 : AK := .seq pread_39 pread_34
abbrev pread_44 : AK := .reg [m 90 7, .v 91 (.nilc (.t 90)), .v 92 (.fldA false 1 1 (.t 91)), .v 93 (.ld false 1 (.t 92)), bi 94 .add 93 20, .v 95 (.nilc (.t 90)), .v 96 (.fldA false 1 1 (.t 95)), .effN false 143000 (.st 1 (.t 96) (.t 94))] [1,4,5,6,7,9,2000002,2000003]
abbrev pread_43 : AK := .seq (.reg [u 143077 77 (.mov (.t 6)), u 143078 78 (.mov (.t 7)), u 143079 79 (.nilc (.t 78)), u 143080 80 (.fldA false 1 1 (.t 79)), u 143081 81 (.ld false 1 (.t 80)), u 143082 82 (.mov (.t 7)), u 143083 83 (.nilc (.t 82)), u 143084 84 (.fldA false 1 1 (.t 83)), u 143085 85 (.ld false 1 (.t 84)), u 143086 86 (.bin .add (.t 85) (ci 20)), .v 87 (.slcS (.t 77) (some (.t 81)) (some (.t 86))), .cal (some 88) false 143088 26 [(.t 87)], .v 89 (.fldA false 5 1 (.t 4)), .effN false 143000 (.st 1 (.t 89) (.t 88))] [1,4,5,6,7,9,2000002,2000003]) pread_44
abbrev pread_47 : AK := .regD [.v 76 (.mki 61 (ci 6))] (.effN false 143000 (.pnc (.t 76))) [] [1,4,5,6,7,9,2000002,2000003]
abbrev pread_45 : AK := .seq (.reg [m 68 6, .v 69 (.len true (.t 68)), m 70 7, .v 71 (.nilc (.t 70)), .v 72 (.fldA false 1 1 (.t 71)), .v 73 (.ld false 1 (.t 72)), b 74 .sub 69 73, bi 75 .lss 74 20] [1,4,5,6,7,9,75,2000002,2000003]) (.cond (.t 75) pread_47 .skip)
abbrev pread_42 : AK := .seq pread_45 pread_43
abbrev pread_48 : AK := .regD [.v 43 (.mki 61 (ci 10))] (.effN false 143000 (.pnc (.t 43))) [] [1,4,5,6,7,9,2000002,2000003]
abbrev pread_40 : AK := .seq (.reg [bi 67 .eql 42 7, m 66 67] [1,4,5,6,7,9,66,2000002,2000003]) (.cond (.t 66) pread_42 pread_48)
abbrev pread_31 : AK := .seq (.reg [bi 50 .eql 42 6, m 49 50] [1,4,5,6,7,9,42,49,2000002,2000003]) (.cond (.t 49) pread_33 pread_40)
abbrev pread_55 : AK := .reg [bi 48 .eql 42 4, m 44 48] [1,4,5,6,7,9,42,44,2000002,2000003]
abbrev pread_53 : AK := .seq (.reg [bi 47 .eql 42 3, m 44 47] [1,4,5,6,7,9,42,44,2000002,2000003]) (.cond (.t 44) .skip pread_55)
abbrev pread_51 : AK := .seq (.reg [bi 46 .eql 42 2, m 44 46] [1,4,5,6,7,9,42,44,2000002,2000003]) (.cond (.t 44) .skip pread_53)
abbrev pread_49 : AK := .seq (.reg [bi 45 .eql 42 1, m 44 45] [1,4,5,6,7,9,42,44,2000002,2000003]) (.cond (.t 44) .skip pread_51)
def pread_29 : AK := .seq pread_49 (.mid (.cond (.t 44) .skip pread_31))
abbrev pread_27 : AK := .seq (.reg [m 42 8] [1,4,5,6,7,9,42,2000002,2000003]) (.block 0 pread_29)
def pread_9 : AK := .seq pread_27 (.mid pread_10)
abbrev pread_8 : AK := .seq (.reg [m 40 8, .v 41 (.fldA false 2 1 (.t 4)), .effN false 143000 (.st 1 (.t 41) (.t 40))] [1,4,5,6,7,8,9,2000002,2000003]) pread_9
abbrev pread_56 : AK := .regD [m 36 7] (.cal (some 37) false 143037 24 [(.t 36)]) [m 35 37, .v 38 (.ext (.t 35) 0), .v 39 (.ext (.t 35) 1), m 8 38, m 9 39] [1,4,5,6,7,8,9,2000002,2000003]
abbrev pread_7 : AK := .seq pread_56 pread_8
abbrev pread_6 : AK := .seq (.reg [m 33 1, .v 34 (.fldA false 0 1 (.t 4)), .effN false 143000 (.st 1 (.t 34) (.t 33))] [1,4,5,6,7,2000002,2000003]) pread_7
abbrev pread_5 : AK := .seq (.reg [m 29 6, m 30 1, .v 31 (.bld [.str [], .int .i64 0] [(0, 1, (.t 29)), (1, 1, (.t 30))]), .eff 32 false 143032 (.box 2 (.t 31)), m 7 32] [1,4,5,6,7,2000002,2000003]) pread_6
abbrev pread_4 : AK := .seq (.reg [m 24 0, m 25 0, .v 26 (.len true (.t 25)), bi 27 .sub 26 20, .v 28 (.slcS (.t 24) none (some (.t 27))), m 6 28] [1,4,5,6,2000002,2000003]) pread_5
abbrev pread : AK := seqK [pread_0, pread_1] (.seq (.dfr 23 [(.c (.tup [.int .i64 23])), (.t 4), (.t 5)]) pread_4)
theorem pread_fn : FnOK Tryd.prog 9 143000 24 pread [.cell 4 true 7, .cell 5 false 1] := ⟨_, Tryd.func9, by kernel_rfl⟩
theorem pread_spec {h : HP} {a0 a1 : AV} {Post : HP → AV → List AV → Prop} (hI : IdleD Tryd.prog 23 2) (hp : HpC Tryd.prog [pread_0, pread_1] pread_4 23 23 [(.t 4), (.t 5)] 143000 2 [.cell 4 true 7, .cell 5 false 1] [(0, a0), (1, a1)] h Post) : Eng.Spec Tryd.prog 9 h [a0, a1] Post := spec_fnC pread_fn rfl (Nat.le_of_ble_eq_true rfl) (Nat.le_of_ble_eq_true rfl) hI [(0, a0), (1, a1)] ⟨rfl, rfl, trivial⟩ hp
abbrev pcount_6 : AK := .seq (.reg [m 34 4, .v 35 (.cvi .i64 (.t 34)), m 2 35, k 3 (ci 0)] [2,3]) .ret
abbrev pcount_9 : AK := .seq (.reg [k 2 (ci 0), k 3 (ci 5)] [2,3]) .ret
abbrev pcount_7 : AK := .seq (.reg [u 144022 22 (.mov (.t 0)), u 144023 23 (.mov (.t 0)), u 144024 24 (.len true (.t 23)), u 144025 25 (.bin .sub (.t 24) (ci 20)), u 144026 26 (.slcS (.t 22) none (some (.t 25))), u 144028 28 (.mov (.t 0)), u 144029 29 (.mov (.t 0)), u 144030 30 (.len true (.t 29)), u 144031 31 (.bin .sub (.t 30) (ci 20)), u 144032 32 (.slcS (.t 28) (some (.t 31)) none), .cal (some 27) true 144027 22 [(.t 26)], b 33 .neq 27 32] [4,33]) (.cond (.t 33) pcount_9 .skip)
abbrev pcount_5 : AK := .seq pcount_7 pcount_6
abbrev pcount_12 : AK := .seq (.reg [k 2 (ci 0), k 3 (ci 2)] [2,3]) .ret
abbrev pcount_10 : AK := .seq (.reg [m 20 4, .v 21 (.bin .gtr (.t 20) (.c (.int .u64 1000)))] [0,4,21]) (.cond (.t 21) pcount_12 .skip)
abbrev pcount_4 : AK := .seq pcount_10 pcount_5
abbrev pcount_3 : AK := .seq (.reg [m 17 0, .v 18 (.slcS (.t 17) (some (ci 8)) (some (ci 12))), .cal (some 19) false 144019 31 [(.t 18)], m 4 19] [0,4]) pcount_4
abbrev pcount_15 : AK := .seq (.reg [k 2 (ci 0), k 3 (ci 3)] [2,3]) .ret
abbrev pcount_13 : AK := .seq (.reg [m 8 0, .v 9 (.slcS (.t 8) none (some (ci 4))), .v 10 (.bin .neq (.t 9) (.c (.str [80, 65, 67, 75]))), m 11 10, .gval 12 11 false false 144012 (.mov (.t 0)), .gval 13 11 false false 144013 (.slcS (.t 12) (some (ci 4)) (some (ci 8))), .gcal 14 11 false false 144014 31 [(.t 13)], .gval 15 11 false false 144015 (.bin .neq (.t 14) (.c (.int .u64 2))), .v 16 (.pick (.t 11) (.c (.bool true)) (.t 15))] [0,16]) (.cond (.t 16) pcount_15 .skip)
abbrev pcount_2 : AK := .seq pcount_13 pcount_3
abbrev pcount_18 : AK := .seq (.reg [k 2 (ci 0), k 3 (ci 6)] [2,3]) .ret
abbrev pcount_16 : AK := .seq (.reg [m 5 0, .v 6 (.len true (.t 5)), bi 7 .lss 6 32] [0,7]) (.cond (.t 7) pcount_18 .skip)
abbrev pcount_1 : AK := .seq pcount_16 pcount_2
abbrev pcount_0 : AK := .seq (.reg [k 2 (ci 0), k 3 (ci 0)] [0]) pcount_1
abbrev pcount : AK := pcount_0
theorem pcount_fn : FnOK Tryd.prog 13 144000 1 pcount [.tmp 2, .tmp 3] := ⟨_, Tryd.func13, by kernel_rfl⟩
theorem pcount_spec {h : HP} {a0 : AV} {Post : HP → AV → List AV → Prop} (hp : HpN Tryd.prog pcount [.tmp 2, .tmp 3] 1 [(0, a0)] h Post) : Eng.Spec Tryd.prog 13 h [a0] Post := spec_fn pcount_fn rfl [(0, a0)] ⟨rfl, trivial⟩ hp
abbrev pbuild_5 : AK := .seq (.reg [m 149 4, m 150 4, .cal (some 151) false 146151 22 [(.t 150)], b 152 .add 149 151, m 2 152, k 3 (ci 0)] [2,3]) .ret
abbrev pbuild_11 : AK := .reg [bi 148 .add 27 1, m 27 148] [0,4,5,25,26,27]
abbrev pbuild_26 : AK := .reg [u 146117 117 (.mov (.t 4)), m 118 10, .v 119 (.len true (.t 118)), u 146122 122 (.mov (.t 13)), u 146124 124 (.mov (.t 10)), .cal (some 120) false 146120 16 [(ci 7), (.t 119)], .v 121 (.bts (.t 120)), b 123 .add 121 122, .cal (some 125) true 146125 17 [(.t 124)], b 126 .add 123 125, b 127 .add 117 126, m 4 127] [0,4,5,25,26,27]
abbrev pbuild_25 : AK := .seq (.reg [m 113 11, .cal (some 114) false 146114 20 [(.t 113)], m 112 114, .v 115 (.ext (.t 112) 0), .v 116 (.ext (.t 112) 1), m 13 115, m 14 116] [0,4,5,10,13,25,26,27]) pbuild_26
abbrev pbuild_24 : AK := .seq (.reg [.v 108 (.ld true 2 (.t 9)), .cal (some 109) false 146109 19 [(.t 108)], m 107 109, .v 110 (.ext (.t 107) 0), .v 111 (.ext (.t 107) 1), m 11 110, m 12 111] [0,4,5,10,11,25,26,27]) pbuild_25
abbrev pbuild_27 : AK := .reg [u 146128 128 (.mov (.t 4)), u 146129 129 (.mov (.t 10)), u 146130 130 (.len true (.t 129)), u 146133 133 (.mov (.t 4)), u 146134 134 (.len true (.t 133)), u 146135 135 (.mov (.t 5)), u 146136 136 (.fldA false 3 1 (.t 7)), u 146137 137 (.ld false 1 (.t 136)), u 146138 138 (.idxA 1 (.t 135) (.t 137)), u 146139 139 (.ld false 1 (.t 138)), u 146140 140 (.bin .sub (.t 134) (.t 139)), u 146144 144 (.mov (.t 10)), .cal (some 131) true 146131 16 [(ci 6), (.t 130)], u 146132 132 (.bts (.t 131)), .cal (some 141) true 146141 21 [(.t 140)], u 146142 142 (.bts (.t 141)), b 143 .add 132 142, .cal (some 145) true 146145 17 [(.t 144)], b 146 .add 143 145, b 147 .add 128 146, m 4 147] [0,4,5,25,26,27]
abbrev pbuild_22 : AK := .seq (.reg [.v 105 (.fldA false 4 1 (.t 7)), .v 106 (.ld false 1 (.t 105))] [0,4,5,7,9,10,25,26,27,106]) (.cond (.t 106) pbuild_24 pbuild_27)
abbrev pbuild_30 : AK := .seq (.reg [k 2 (.c (.str [])), k 3 (ci 2)] [2,3]) .ret
abbrev pbuild_28 : AK := .seq (.reg [m 102 10, .v 103 (.len true (.t 102)), bi 104 .gtr 103 65000] [0,4,5,7,9,10,25,26,27,104]) (.cond (.t 104) pbuild_30 .skip)
abbrev pbuild_21 : AK := .seq pbuild_28 pbuild_22
abbrev pbuild_20 : AK := .seq (.reg [.v 96 (.fldA false 1 1 (.t 9)), .v 97 (.ld false 1 (.t 96)), .v 98 (.fldA true 0 2 (.t 7)), .v 99 (.fldA false 1 1 (.t 98)), .v 100 (.ld false 1 (.t 99)), .cal (some 101) false 146101 18 [(.t 97), (.t 100)], m 10 101] [0,4,5,7,9,10,25,26,27]) pbuild_21
abbrev pbuild_19 : AK := .seq (.reg [m 90 0, .v 91 (.fldA false 3 1 (.t 7)), .v 92 (.ld false 1 (.t 91)), .v 93 (.idxA 5 (.t 90) (.t 92)), .v 94 (.fldA true 0 2 (.t 93)), .v 95 (.ld true 2 (.t 94)), .eff 9 false 146009 (.alloc [.int .i64 0, .str []]), .effN false 146000 (.st 2 (.t 9) (.t 95))] [0,4,5,7,9,25,26,27]) pbuild_20
abbrev pbuild_33 : AK := .seq (.reg [u 146074 74 (.mov (.t 4)), u 146075 75 (.fldA true 0 2 (.t 7)), u 146076 76 (.fldA false 0 1 (.t 75)), u 146077 77 (.ld false 1 (.t 76)), u 146078 78 (.fldA true 0 2 (.t 7)), u 146079 79 (.fldA false 1 1 (.t 78)), u 146080 80 (.ld false 1 (.t 79)), u 146081 81 (.len true (.t 80)), u 146084 84 (.fldA true 0 2 (.t 7)), u 146085 85 (.fldA false 1 1 (.t 84)), u 146086 86 (.ld false 1 (.t 85)), .cal (some 82) true 146082 16 [(.t 77), (.t 81)], u 146083 83 (.bts (.t 82)), .cal (some 87) true 146087 17 [(.t 86)], b 88 .add 83 87, b 89 .add 74 88, m 4 89] [0,4,5,25,26,27]) (.exit 1)
abbrev pbuild_31 : AK := .seq (.reg [.v 71 (.fldA false 2 1 (.t 7)), .v 72 (.ld false 1 (.t 71)), .v 73 (.un .not (.t 72))] [0,4,5,7,25,26,27,73]) (.cond (.t 73) pbuild_33 .skip)
abbrev pbuild_18 : AK := .seq pbuild_31 pbuild_19
abbrev pbuild_17 : AK := .seq (.reg [m 66 5, m 67 4, .v 68 (.len true (.t 67)), .eff 69 false 146069 (.bsl 1 [(.t 68)]), .eff 70 false 146070 (.app 1 8 (.t 66) (.t 69)), m 5 70] [0,4,5,7,25,26,27]) pbuild_18
abbrev pbuild_36 : AK := .seq (.reg [k 2 (.c (.str [])), k 3 (ci 10)] [2,3]) .ret
abbrev pbuild_34 : AK := .seq (.reg [.v 51 (.fldA false 2 1 (.t 7)), .v 52 (.ld false 1 (.t 51)), m 53 52, .gval 54 53 true true 146054 (.mov (.t 0)), .gval 55 53 true true 146055 (.fldA false 3 1 (.t 7)), .gval 56 53 true true 146056 (.ld false 1 (.t 55)), .gval 57 53 true true 146057 (.idxA 5 (.t 54) (.t 56)), .gval 58 53 true true 146058 (.fldA true 0 2 (.t 57)), .gval 59 53 true true 146059 (.fldA false 0 1 (.t 58)), .gval 60 53 true true 146060 (.ld false 1 (.t 59)), .gval 61 53 true true 146061 (.fldA true 0 2 (.t 7)), .gval 62 53 true true 146062 (.fldA false 0 1 (.t 61)), .gval 63 53 true true 146063 (.ld false 1 (.t 62)), .gval 64 53 true false 146064 (.bin .neq (.t 60) (.t 63)), .v 65 (.pick (.t 53) (.t 64) (.c (.bool false)))] [0,4,5,7,25,26,27,65]) (.cond (.t 65) pbuild_36 .skip)
abbrev pbuild_16 : AK := .seq pbuild_34 pbuild_17
abbrev pbuild_39 : AK := .seq (.reg [k 2 (.c (.str [])), k 3 (ci 1)] [2,3]) .ret
abbrev pbuild_37 : AK := .seq (.reg [.v 38 (.fldA false 2 1 (.t 7)), .v 39 (.ld false 1 (.t 38)), m 40 39, .gval 41 40 true false 146041 (.fldA false 3 1 (.t 7)), .gval 42 40 true false 146042 (.ld false 1 (.t 41)), .gval 43 40 true false 146043 (.bin .lss (.t 42) (ci 0)), .gval 44 40 true false 146044 (.mov (.t 43)), .gval 45 44 false false 146045 (.fldA false 3 1 (.t 7)), .gval 46 44 false false 146046 (.ld false 1 (.t 45)), .gval 47 44 false false 146047 (.mov (.t 6)), .gval 48 44 false false 146048 (.bin .geq (.t 46) (.t 47)), .gval 49 40 true false 146049 (.pick (.t 44) (.c (.bool true)) (.t 48)), .v 50 (.pick (.t 40) (.t 49) (.c (.bool false)))] [0,4,5,7,25,26,27,50]) (.cond (.t 50) pbuild_39 .skip)
abbrev pbuild_15 : AK := .seq pbuild_37 pbuild_16
abbrev pbuild_43 : AK := .seq (.reg [m 37 8, k 2 (.c (.str [])), m 3 37] [2,3]) .ret
abbrev pbuild_41 : AK := .seq (.reg [m 35 8, bi 36 .neq 35 0] [0,4,5,6,7,8,25,26,27,36]) (.cond (.t 36) pbuild_43 .skip)
abbrev pbuild_40 : AK := .seq (.reg [.v 32 (.fldA true 0 2 (.t 7)), .v 33 (.ld true 2 (.t 32)), .cal (some 34) false 146034 15 [(.t 33)], m 8 34] [0,4,5,6,7,8,25,26,27]) pbuild_41
abbrev pbuild_14 : AK := .seq pbuild_40 pbuild_15
abbrev pbuild_13 : AK := .seq (.reg [m 29 27, .v 30 (.idxA 5 (.t 25) (.t 27)), .v 31 (.ld true 5 (.t 30)), .eff 7 false 146007 (.alloc [.int .i64 0, .str [], .bool false, .int .i64 0, .bool false]), m 6 29, .effN false 146000 (.st 5 (.t 7) (.t 31))] [0,4,5,6,7,25,26,27]) pbuild_14
abbrev pbuild_10 : AK := .seq (.block 1 pbuild_13) pbuild_11
abbrev pbuild_9 : AK := .seq (.cond (.t 28) .skip (.exit 0)) pbuild_10
abbrev pbuild_8 : AK := .seq (.reg [b 28 .lss 27 26] [0,4,5,25,26,27,28]) pbuild_9
abbrev pbuild_L0 : AK := .loop pbuild_8
abbrev pbuild_6 : AK := .seq (.reg [m 25 0, .v 26 (.len false (.t 25)), k 27 (ci 0)] [0,4,5,25,26,27]) (.block 0 pbuild_L0)
abbrev pbuild_4 : AK := .seq pbuild_6 pbuild_5
abbrev pbuild_3 : AK := .seq (.reg [k 5 (.c (.nilsl))] [0,4,5]) pbuild_4
abbrev pbuild_2 : AK := .seq (.reg [.cal (some 18) false 146018 14 [(.c (.int .u64 2)), (ci 4)], .v 19 (.bin .add (.c (.str [80, 65, 67, 75])) (.t 18)), m 20 0, .v 21 (.len false (.t 20)), .v 22 (.cvi .u64 (.t 21)), .cal (some 23) false 146023 14 [(.t 22), (ci 4)], b 24 .add 19 23, m 4 24] [0,4]) pbuild_3
abbrev pbuild_47 : AK := .seq (.reg [k 2 (.c (.str [])), k 3 (ci 2)] [2,3]) .ret
abbrev pbuild_45 : AK := .seq (.reg [m 15 0, .v 16 (.len false (.t 15)), bi 17 .gtr 16 1000] [0,17]) (.cond (.t 17) pbuild_47 .skip)
abbrev pbuild_1 : AK := .seq pbuild_45 pbuild_2
abbrev pbuild_0 : AK := .seq (.reg [k 2 (.c (.str [])), k 3 (ci 0)] [0]) pbuild_1
abbrev pbuild : AK := pbuild_0
theorem pbuild_fn : FnOK Tryd.prog 7 146000 1 pbuild [.tmp 2, .tmp 3] := ⟨_, Tryd.func7, by kernel_rfl⟩
theorem pbuild_spec {h : HP} {a0 : AV} {Post : HP → AV → List AV → Prop} (hp : HpN Tryd.prog pbuild [.tmp 2, .tmp 3] 1 [(0, a0)] h Post) : Eng.Spec Tryd.prog 7 h [a0] Post := spec_fn pbuild_fn rfl [(0, a0)] ⟨rfl, trivial⟩ hp
abbrev awake11_4 : AK := .seq (.reg [m 21 2, bi 22 .eql 21 0, m 23 22, .gval 24 23 true false 152024 (.mov (.t 4)), .gval 25 23 true false 152025 (.bin .eql (.t 24) (ci 0)), .v 26 (.pick (.t 23) (.t 25) (.c (.bool false))), m 27 26, .gval 28 27 true false 152028 (.mov (.t 6)), .gval 29 27 true false 152029 (.bin .eql (.t 28) (ci 6)), .v 30 (.pick (.t 27) (.t 29) (.c (.bool false))), m 31 30, .gval 32 31 true false 152032 (.mov (.t 3)), .gval 33 31 true false 152033 (.bin .eql (.t 32) (ci 0)), .v 34 (.pick (.t 31) (.t 33) (.c (.bool false))), m 35 34, .gval 36 35 true false 152036 (.mov (.t 1)), .gval 37 35 true false 152037 (.len true (.t 36)), .gval 38 35 true false 152038 (.bin .eql (.t 37) (ci 32)), .v 39 (.pick (.t 35) (.t 38) (.c (.bool false))), m 40 39, .gval 41 40 true false 152041 (.mov (.t 1)), .gval 42 40 true false 152042 (.slcS (.t 41) none (some (ci 12))), .gval 43 40 true false 152043 (.bin .eql (.t 42) (.c (.str [80, 65, 67, 75, 0, 0, 0, 2, 0, 0, 0, 0]))), .v 44 (.pick (.t 40) (.t 43) (.c (.bool false))), m 0 44] [0]) .ret
abbrev awake11_3 : AK := .seq (.reg [m 17 1, .cal (some 18) false 152018 9 [(.t 17), (ci 12)], m 16 18, .v 19 (.ext (.t 16) 0), .v 20 (.ext (.t 16) 1), .eff 5 false 152005 (.alloc [.int .i64 0, .int .i64 0, .int .i64 0, .str [], .int .i64 0, .str [], .int .u32 0]), .effN false 152000 (.st 7 (.t 5) (.t 19)), m 6 20] [1,2,3,4,6]) awake11_4
abbrev awake11_2 : AK := .seq (.reg [m 12 1, .cal (some 13) false 152013 13 [(.t 12)], m 11 13, .v 14 (.ext (.t 11) 0), .v 15 (.ext (.t 11) 1), m 3 14, m 4 15] [1,2,3,4]) awake11_3
abbrev awake11_1 : AK := .seq (.reg [.cal (some 8) false 152008 7 [(.c (.nilsl))], m 7 8, .v 9 (.ext (.t 7) 0), .v 10 (.ext (.t 7) 1), m 1 9, m 2 10] [1,2]) awake11_2
abbrev awake11_0 : AK := .seq (.reg [k 0 (.c (.bool false))] []) awake11_1
abbrev awake11 : AK := awake11_0
theorem awake11_fn : FnOK Tryd.prog 8 152000 0 awake11 [.tmp 0] := ⟨_, Tryd.func8, by kernel_rfl⟩
theorem awake11_spec {h : HP} {Post : HP → AV → List AV → Prop} (hp : HpN Tryd.prog awake11 [.tmp 0] 0 [] h Post) : Eng.Spec Tryd.prog 8 h [] Post := spec_fn awake11_fn rfl [] trivial hp
abbrev few_2 : AK := .seq (.reg [m 12 0, m 4 12] [4]) .ret
abbrev few_5 : AK := .seq (.reg [m 9 0, m 10 1, .v 11 (.slcS (.t 9) none (some (.t 10))), m 4 11] [4]) .ret
abbrev few_3 : AK := .seq (.reg [m 5 0, .v 6 (.len true (.t 5)), m 7 1, b 8 .gtr 6 7] [0,1,8]) (.cond (.t 8) few_5 .skip)
abbrev few_1 : AK := .seq few_3 few_2
abbrev few_0 : AK := .seq (.reg [k 4 (.c (.str []))] [0,1]) few_1
abbrev few : AK := few_0
theorem few_fn : FnOK Tryd.prog 6 155000 2 few [.tmp 4] := ⟨_, Tryd.func6, by kernel_rfl⟩
theorem few_spec {h : HP} {a0 a1 : AV} {Post : HP → AV → List AV → Prop} (hp : HpN Tryd.prog few [.tmp 4] 2 [(0, a0), (1, a1)] h Post) : Eng.Spec Tryd.prog 6 h [a0, a1] Post := spec_fn few_fn rfl [(0, a0), (1, a1)] ⟨rfl, rfl, trivial⟩ hp
end Go.Proofs.YtjoefngnjoofeaaDoor.Cod
namespace Go.Proofs.YtjoefngnjoofeaaDoor.Pk
section
variable {t : Bs} {S : SS}
theorem out_fail {e : Nat} : (failS e S).out = S.out := by unfold failS; split <;> rfl
theorem out_num {n : Nat} : (numS t n S).2.out = S.out := by
 unfold numS
 split
 ·rfl
 ·split <;> rfl
theorem out_sym {l : List Nat} : (symS t l S).2.out = S.out := by
 unfold symS
 split
 ·rfl
 ·split <;> rfl
theorem out_times {l : List Nat} {s : Nat} : (timesS t l s S).2.2.out = S.out := by
 unfold timesS
 split
 ·split
  ·exact out_fail
  ·exact out_num
 ·split
  ·exact out_num
  ·split
   ·exact out_num
   ·rfl
theorem out_over {N : Nat} {l : List Nat} {b : Nat × Nat × SS} : (overS N l b).out = b.2.2.out := by
 unfold overS
 split
 ·exact out_fail
 ·rfl
end
theorem out_first {t : Bs} {nc : Nat} : ∀ (k : Nat) (l : List Nat) (S : SS), (firstS t nc k l S).2.out = S.out
 | 0, _, _ => rfl
 | k + 1, l, S => by
  rw [firstS_succ]
  split
  ·rfl
  ·rw [out_first k, out_num]
theorem out_lens {t : Bs} {fl : List Nat} {N : Nat} : ∀ (k : Nat) (l : List Nat) (S : SS), (lensS t fl N k l S).2.out = S.out
 | 0, _, _ => rfl
 | k + 1, l, S => by
  rw [lens_succ]
  split
  ·rfl
  ·split
   ·simp only; rw [out_over, out_times, out_sym]
   ·rw [out_lens k, out_over, out_times, out_sym]
theorem dyn_out (t : Bs) (S : SS) : (dynS t S).2.out = S.out := by
 rw [dynS_eq]
 split
 ·rfl
 ·split
  ·rfl
  ·unfold firstF
   split
   ·simp only; rw [out_first]
   ·split
    ·simp only; rw [out_first]
    ·unfold lensF
     split
     ·simp only; rw [out_lens, out_first]
     ·split
      ·simp only; rw [out_lens, out_first]
      ·simp only; rw [out_lens, out_first]
end Go.Proofs.YtjoefngnjoofeaaDoor.Pk
namespace Go.Proofs.YtjoefngnjoofeaaDoor.Pk
open Eng
set_option maxRecDepth 10000
def tblN : AV := .lit (.pointer none)
def PT (s : Bs) (o most : Nat) (out : Bs) (D : (List Nat × List Nat) × SS) (h' : HP) (v : AV) : Prop :=
 ∃ a' hv', h' = stI s o most a' hv' out ∧ (D.2.err ≠ 0 → v = .tup [tblN, tblN, .int .i64 (D.2.err : Nat)]) ∧
  (D.2.err = 0 → v = .tup [tblA D.1.1, tblA D.1.2, .int .i64 (0 : Nat)] ∧ RdOK s a' hv' (8 * o + D.2.p) ∧ chkL D.1.1 = true ∧ chkL D.1.2 = true ∧ (∀ n ∈ D.1.1, n ≤ 15) ∧ (∀ n ∈ D.1.2, n ≤ 15) ∧ D.1.1.length ≤ 286 ∧ D.1.2.length ≤ 320)
abbrev QT (R : HP → AV → List AV → Prop) : KQ := KQ.post [.tmp 2, .tmp 3, .tmp 4] 1 R
abbrev QTb (R1 RX : KS) (R : HP → AV → List AV → Prop) : KQ := KQ.blk 3 (KQ.rnd R1 (KQ.blk 2 (KQ.rnd RX (QT R))))
abbrev PTo (s : Bs) (o most : Nat) (out : Bs) (D : (List Nat × List Nat) × SS) : HP → AV → List AV → Prop := fun h' v ar => PT s o most out D h' v ∧ ar = [.vptr IST 0]
theorem pt_bad {s : Bs} {o most : Nat} {out : Bs} {D : (List Nat × List Nat) × SS} {R : HP → AV → List AV → Prop} (hR : PostTo (PTo s o most out D) R) (e : Nat) (he : D.2.err = e) (hne : e ≠ 0) (a' hv' : Nat) {h : HP} (hh : leH h (stI s o most a' hv' out)) :
    R h (.tup [.lit (.pointer none), .lit (.pointer none), .int .i64 (e : Nat)]) [.vptr 65032 0] :=
 hR.le (h' := stI s o most a' hv' out) hh ⟨⟨a', hv', rfl, fun _ => by rw [he]; rfl, fun h => absurd h (by rw [he]; exact hne)⟩, rfl⟩
theorem rbits_d (s : Bs) (o p a hv n : Nat) (hs : s.length ≤ 1000000000) (h : RdOK s a hv (8 * o + p)) (hn : n ≤ 32) : Eng.Spec Tryd.prog 77 [(RD, .var (rdA s a hv o))] [.vptr RD 0, .int .i64 n]
    (fun h' v ar => ∃ a' hv', RdOK s a' hv' (8 * o + (if n ≤ 8 * (s.drop o).length - p then p + n else p)) ∧ h' = [(RD, .var (rdA s a' hv' o))] ∧ v = .tup [.int .u32 (if n ≤ 8 * (s.drop o).length - p then numAt (s.drop o) p n else 0 : Nat), .bool (decide (n ≤ 8 * (s.drop o).length - p))] ∧ ar = [.vptr RD 0, .int .i64 n]) := by
 have hb := rbits_ok s a hv o (8 * o + p) n (by omega) h hn
 rw [left_drop, ← num_drop] at hb
 rw [show 8 * o + (if n ≤ 8 * (s.drop o).length - p then p + n else p) = (if n ≤ 8 * (s.drop o).length - p then 8 * o + p + n else 8 * o + p) by split <;> omega]
 exact hb
theorem hnew_two (l : List Nat) (hl : ∀ n ∈ l, n ≤ 15) (hn : l.length ≤ 320) : ∃ (x : AV) (e : Nat), Eng.Spec Tryd.prog 71 [] [.ro 1 (nats l)] (fun h r _ => h = [] ∧ r = .tup [x, .int .i64 (e : Nat)]) ∧ ((chkL l = true ∧ x = tblA l ∧ e = 0) ∨ (chkL l = false ∧ x = .lit (.pointer none) ∧ e = 4)) := by
 have n1 := hnew_ok l hl hn
 by_cases hc : chkL l = true
 ·rw [if_pos hc] at n1
  exact ⟨_, 0, n1, .inl ⟨hc, rfl, rfl⟩⟩
 ·rw [if_neg hc] at n1
  exact ⟨_, 4, n1, .inr ⟨by simpa using hc, rfl, rfl⟩⟩
set_option maxHeartbeats 2000000 in
theorem it_d (s : Bs) (o most a hv : Nat) (out : Bs) (l : List Nat) (nl p : Nat) (D : (List Nat × List Nat) × SS) {E : Env} {R : HP → AV → List AV → Prop} (hN : E.N ≤ 1000000) (hR : PostTo (PTo s o most out D) R) (hl : ∀ n ∈ l, n ≤ 15) (h1 : 257 ≤ nl) (h2 : nl ≤ 286) (h3 : l.length ≤ 320) (h4 : nl ≤ l.length)
    (hr : RdOK s a hv (8 * o + p))
    (hD : D = if l.getD 256 0 = 0 ∨ chkL (l.take nl) = false ∨ chkL (l.drop nl) = false then (([], []), ⟨p, out, 3⟩) else ((l.take nl, l.drop nl), ⟨p, out, 0⟩)) :
    vcW Tryd.prog E Cod.itables_11 (QT R) ⟨[(0, .vptr 65032 0), (7, .int .i64 nl), (16, .ro 1 (nats l)), (2000000, .vptr 65032 0)], stI s o most a hv out⟩ := by
 have hnl := nats_len l
 have ht1 : (l.take nl).length = nl := by rw [List.length_take]; omega
 have hd1 : (l.drop nl).length = l.length - nl := List.length_drop
 obtain ⟨x1, e1, n1, c1⟩ := hnew_two (l.take nl) (take15 hl nl) (by omega)
 obtain ⟨x2, e2, n2, c2⟩ := hnew_two (l.drop nl) (drop15 hl nl) (by omega)
 have hx : nth (nats l) 256 = .int .i64 (l.getD 256 0 : Nat) := nth_nats (by omega)
 have etd : (l.drop nl).take (l.length - nl) = l.drop nl := List.take_of_length_le (by omega)
 generalize hy : l.getD 256 0 = y at *
 have bad : D = (([], []), ⟨p, out, 3⟩) → ∀ h, leH h (stI s o most a hv out) → R h (.tup [.lit (.pointer none), .lit (.pointer none), .int .i64 3]) [.vptr 65032 0] := fun hd h hh => pt_bad hR 3 (by rw [hd]) (by decide) a hv hh
 simp (disch := omega) only [go_sem, simprocAttr, stI, hnl, nats_sub]
 rcases c1 with ⟨hc1, rfl, rfl⟩ | ⟨hc1, rfl, rfl⟩ <;> rcases c2 with ⟨hc2, rfl, rfl⟩ | ⟨hc2, rfl, rfl⟩ <;> by_cases h0 : y = 0
 all_goals
  refine call_ro' n1 rfl ?_
  rintro h' v as' ⟨rfl, rfl⟩
  refine ⟨rfl, rfl, ?_⟩
  simp (disch := omega) only [go_sem, simprocAttr, hnl, nats_sub, etd, tblA]
  refine call_ro' n2 rfl ?_
  rintro h' v as' ⟨rfl, rfl⟩
  refine ⟨rfl, rfl, ?_⟩
 rotate_left
 ·rw [if_neg (by rw [hc1, hc2]; simp [h0])] at hD
  subst hD
  have hi : ¬ ((y : Nat) : Int) = 0 := by omega
  simp (disch := omega) only [go_sem, simprocAttr, hnl, hx, hi, tblA]
  (repeat (first | refine gskip_of ?_ | refine gcskip_of ?_ | refine gopen_of ?_) <;> simp (disch := omega) only [go_sem, simprocAttr, hnl, hx, hi])
  exact hR.le (h' := stI s o most a hv out) (by simp (disch := omega) only [go_sem, simprocAttr, stI, rdA]) ⟨⟨a, hv, rfl, fun h => absurd rfl h, fun _ => ⟨rfl, hr, hc1, hc2, take15 hl nl, drop15 hl nl, by rw [ht1]; exact h2, by rw [hd1]; omega⟩⟩, rfl⟩
 all_goals
  rw [if_pos (by first | exact .inl h0 | exact .inr (.inl hc1) | exact .inr (.inr hc2))] at hD
  have bad := bad hD
 all_goals first
  |have hi : ((y : Nat) : Int) = 0 := by omega
   simp (disch := omega) only [go_sem, simprocAttr, hnl, hx, hi, tblA]
   (try (repeat (first | refine gskip_of ?_ | refine gcskip_of ?_ | refine gopen_of ?_) <;> simp (disch := omega) only [go_sem, simprocAttr, hnl, hx, hi]))
   exact bad _ (by simp (disch := omega) only [go_sem, simprocAttr, stI, rdA])
  |have hi : ¬ ((y : Nat) : Int) = 0 := by omega
   simp (disch := omega) only [go_sem, simprocAttr, hnl, hx, hi, tblA]
   (try (repeat (first | refine gskip_of ?_ | refine gcskip_of ?_ | refine gopen_of ?_) <;> simp (disch := omega) only [go_sem, simprocAttr, hnl, hx, hi]))
   exact bad _ (by simp (disch := omega) only [go_sem, simprocAttr, stI, rdA])
end Go.Proofs.YtjoefngnjoofeaaDoor.Pk
namespace Go.Proofs.YtjoefngnjoofeaaDoor.Pk
open Eng
set_option maxRecDepth 10000
set_option maxHeartbeats 1000000 in
theorem it_cp (s : Bs) (o most a hv N : Nat) (out : Bs) (l fl : List Nat) (nl nd p nb least what : Nat) (D : (List Nat × List Nat) × SS) {E : Env} {R1 RX : KS} {R : HP → AV → List AV → Prop} (hN : E.N ≤ 1000000) (hs : s.length ≤ 1000000000) (ho : o ≤ s.length)
    (hR : PostTo (PTo s o most out D) R) (hr : RdOK s a hv (8 * o + p)) (hbits : nb ≤ 7) (hleast : least ≤ 11) (hNN : nl + nd = N) (hN1 : N ≤ 400) (hll : l.length ≤ N)
    (hbad : (overS N l (least + (numS (s.drop o) nb ⟨p, out, 0⟩).1, what, (numS (s.drop o) nb ⟨p, out, 0⟩).2)).err ≠ 0 → D.2.err = (overS N l (least + (numS (s.drop o) nb ⟨p, out, 0⟩).1, what, (numS (s.drop o) nb ⟨p, out, 0⟩).2)).err)
    (hR1 : ∀ n a' hv' st', n = numAt (s.drop o) p nb → p + nb ≤ 8 * (s.drop o).length → l.length + (least + n) ≤ N → RdOK s a' hv' (8 * o + (p + nb)) →
     Wk st' ⟨[(0, .vptr 65032 0), (7, .int .i64 nl), (8, .int .i64 nd), (14, tblA fl), (16, .sl 62110 0 (l ++ List.replicate (least + n) what).length), (2000000, .vptr 65032 0)], stI s o most a' hv' out ++ [(62110, .arr 1 (nats (l ++ List.replicate (least + n) what)))]⟩ → R1.ap st') :
    vcW Tryd.prog E Cod.itables_26 (QTb R1 RX R) ⟨[(0, .vptr 65032 0), (7, .int .i64 nl), (8, .int .i64 nd), (14, tblA fl), (16, .sl 62110 0 l.length), (19, .int .i64 nb), (20, .int .i64 least), (21, .int .i64 what), (2000000, .vptr 65032 0)], stI s o most a hv out ++ [(62110, .arr 1 (nats l))]⟩ := by
 have htl : (s.drop o).length = s.length - o := List.length_drop
 have hnl := nats_len l
 have hb := rbits_d s o p a hv nb hs hr (by omega)
 simp (disch := omega) only [go_sem, simprocAttr, stI]
 refine call_win [(RD, .var (rdA s a hv o))] hb (by simp (disch := omega) only [go_sem, simprocAttr]) nofun ?_
 rintro h' v ar ⟨a1, hv1, hr1, rfl, rfl, rfl⟩
 by_cases hf : nb ≤ 8 * (s.drop o).length - p
 ·rw [if_pos hf] at hr1
  rw [if_pos hf, decide_eq_true hf]
  have hpl : p + nb ≤ 8 * (s.drop o).length := by have := hr.h2; have := hr.h3; omega
  rw [num_ok rfl hpl] at hbad
  simp only at hbad
  have hlt := num_lt (s.drop o) p nb
  have hp7 : 2 ^ nb ≤ 2 ^ 7 := Nat.pow_le_pow_right (by decide) hbits
  have hR1 := fun st' => hR1 _ a1 hv1 st' rfl hpl
  generalize numAt (s.drop o) p nb = n at *
  refine ⟨by simp (disch := omega) only [go_sem, simprocAttr, rdA], rfl, ?_⟩
  by_cases hov : N < l.length + (least + n)
  ·have ho2 : ((nl : Int) + (nd : Int)) < (l.length : Int) + (least : Int) + (n : Int) := by omega
   have hbad := hbad (by unfold overS; rw [if_pos hov, fail_of rfl]; simp)
   unfold overS at hbad
   rw [if_pos hov, fail_of rfl] at hbad
   simp (disch := omega) only [go_sem, simprocAttr, hnl, ho2]
   exact pt_bad hR 3 hbad (by decide) a1 hv1 (by simp (disch := omega) only [go_sem, simprocAttr, stI, rdA])
  ·have ho2 : ¬ ((nl : Int) + (nd : Int)) < (l.length : Int) + (least : Int) + (n : Int) := by omega
   have eln : (least : Int) + (n : Int) = ((least + n : Nat) : Int) := by omega
   clear hbad
   simp (disch := omega) only [go_sem, simprocAttr, hnl, ho2]
   generalize hk : least + n = k at *
   rw [eln]
   refine vcW_loop hN (fun j : Nat => ⟨[(0, .vptr 65032 0), (7, .int .i64 nl), (8, .int .i64 nd), (14, tblA fl), (16, .sl 62110 0 (l.length + j : Nat)), (21, .int .i64 what), (150, .int .i64 k), (151, .int .i64 j), (2000000, .vptr 65032 0)], stI s o most a1 hv1 out ++ [(62110, .arr 1 (nats (l ++ List.replicate j what)))]⟩) (fun j => j ≤ k) (fun j => k - j) 0
    (.le (by simp (disch := omega) only [go_sem, simprocAttr, stI, rdA, tblA]; simp)) (by omega) ?_
   rintro j R2 hj hR2
   have hnl := nats_len (l ++ List.replicate j what)
   have hlr : (l ++ List.replicate j what).length = l.length + j := by simp
   have hnr := nats_rep l j what
   have hsb : sub3 (nats (l ++ List.replicate j what)) 0 (l.length + j) = nats (l ++ List.replicate j what) := by rw [← hlr]; exact nats_take
   by_cases hjk : j < k
   ·simp (disch := omega) only [go_sem, simprocAttr, stI, hsb, nats_cells]
    exact hR2 (j + 1) _ (by omega) (by omega) (.le (by simp (disch := omega) only [go_sem, simprocAttr, stI, rdA, tblA, hnr]))
   ·obtain rfl : j = k := by omega
    simp (disch := omega) only [go_sem, simprocAttr, stI]
    exact hR1 _ (by omega) hr1 (.le (by simp (disch := omega) only [go_sem, simprocAttr, stI, rdA, tblA, hlr]))
 ·rw [if_neg hf] at hr1
  rw [if_neg hf, decide_eq_false hf]
  rw [num_no rfl (by simp only; omega)] at hbad
  have hover : ∀ k, (overS N l (k, what, { p := p, out := out, err := 6 })).err = 6 := by
   intro k
   unfold overS
   split
   ·rfl
   ·rfl
  simp only at hbad
  rw [hover] at hbad
  refine ⟨by simp (disch := omega) only [go_sem, simprocAttr, rdA], rfl, ?_⟩
  simp (disch := omega) only [go_sem, simprocAttr]
  exact pt_bad hR 6 (hbad (by decide)) (by decide) a1 hv1 (by simp (disch := omega) only [go_sem, simprocAttr, stI, rdA])
set_option maxHeartbeats 2000000 in
theorem it_b (s : Bs) (o most a hv : Nat) (out : Bs) (fl : List Nat) (nl nd p : Nat) (D : (List Nat × List Nat) × SS) {E : Env} {R : HP → AV → List AV → Prop} (hN : E.N ≤ 1000000) (hs : s.length ≤ 1000000000) (ho : o ≤ s.length)
    (hR : PostTo (PTo s o most out D) R) (hr : RdOK s a hv (8 * o + p)) (hfl : ∀ n ∈ fl, n ≤ 15) (hfn : fl.length = 19) (hfc : chkL fl = true) (h1 : 257 ≤ nl) (h2 : nl ≤ 286) (h3 : 1 ≤ nd) (h4 : nd ≤ 30)
    (hD : D = lensF (s.drop o) nl nd (lensS (s.drop o) fl (nl + nd) (nl + nd) [] ⟨p, out, 0⟩)) :
    vcW Tryd.prog E Cod.itables_10 (QT R) ⟨[(0, .vptr 65032 0), (7, .int .i64 nl), (8, .int .i64 nd), (14, tblA fl), (16, .nilsl), (2000000, .vptr 65032 0)], stI s o most a hv out⟩ := by
 generalize hG : lensS (s.drop o) fl (nl + nd) (nl + nd) [] ⟨p, out, 0⟩ = G at hD
 have hN1 : nl + nd ≤ 400 := by omega
 generalize hNN : nl + nd = N at *
 have hbadG : G.2.err ≠ 0 → D.2.err = G.2.err := by
  intro h
  rw [hD]
  unfold lensF
  rw [if_pos h]
 refine vcW_cut (y := Cod.itables_11) hN (fun z : Nat × Nat => ⟨[(0, .vptr 65032 0), (7, .int .i64 nl), (16, .ro 1 (nats G.1)), (2000000, .vptr 65032 0)], stI s o most z.1 z.2 out⟩)
  (fun z => RdOK s z.1 z.2 (8 * o + G.2.p) ∧ G.2 = ⟨G.2.p, out, 0⟩ ∧ (∀ n ∈ G.1, n ≤ 15) ∧ G.1.length = N) (fun RX hRX => ?_) (fun z hz => ?_)
 ·simp (disch := omega) only [go_sem, simprocAttr]
  refine vcW_loop hN (fun q : List Nat × Nat × Nat × Nat => ⟨[(0, .vptr 65032 0), (7, .int .i64 nl), (8, .int .i64 nd), (14, tblA fl), (16, .sl 62110 0 q.1.length), (2000000, .vptr 65032 0)], stI s o most q.2.1 q.2.2.1 out ++ [(62110, .arr 1 (nats q.1))]⟩)
   (fun q => (∀ n ∈ q.1, n ≤ 15) ∧ q.1.length ≤ N ∧ RdOK s q.2.1 q.2.2.1 (8 * o + q.2.2.2) ∧ ∃ k, N - q.1.length ≤ k ∧ lensS (s.drop o) fl N k q.1 ⟨q.2.2.2, out, 0⟩ = G) (fun q => N - q.1.length) ([], a, hv, p)
   (.nil 16 62110 1 rfl (.le (by simp (disch := omega) only [go_sem, simprocAttr, stI, rdA, tblA, nats_nil]))) ⟨by simp, by simp, hr, N, by simp, hG⟩ ?_
  clear hr hG
  rintro ⟨l, a, hv, p⟩ R1 ⟨hl, hll, hr, k, hk, hg⟩ hR1
  simp only at hl hll hr hk hg
  have hnl := nats_len l
  have htl : (s.drop o).length = s.length - o := List.length_drop
  by_cases hlt : l.length < N
  ·have hlt2 : (l.length : Int) < (nl : Int) + (nd : Int) := by omega
   obtain ⟨k, rfl⟩ : ∃ k', k = k' + 1 := ⟨k - 1, by omega⟩
   rw [lens_succ, if_neg (by simp only; omega)] at hg
   have hread := hread_ok fl hfl (by omega) hfc s a hv o (8 * o + p) (by omega) hr
   rw [← rest_drop] at hread
   simp only [tblA] at hread
   generalize hre : readL (codesL fl) (restB (s.drop o) p) = re at *
   simp (disch := omega) only [go_sem, simprocAttr, stI, tblA, hnl, hlt2]
   refine call_win [(RD, .var (rdA s a hv o))] hread (by simp (disch := omega) only [go_sem, simprocAttr]) nofun ?_
   rintro h' v ar ⟨a2, hv2, p2, sy, hr2, rfl, rfl, hk2, rfl⟩
   refine ⟨by simp (disch := omega) only [go_sem, simprocAttr, rdA], rfl, ?_⟩
   by_cases hre2 : re.2.2 = 0
   ·obtain ⟨rfl, rfl⟩ := hk2 hre2
    have hsym : symS (s.drop o) fl ⟨p, out, 0⟩ = (re.1, ⟨p + re.2.1, out, 0⟩) := by
     have := sym_ok (t := s.drop o) (l := fl) (S := ⟨p, out, 0⟩) rfl (by simp only; rw [hre]; exact hre2)
     simp only [hre] at this
     exact this
    rw [hsym] at hg
    simp only at hg
    have hslt : re.1 < 19 := by
     have := read_bits (codesL fl) (restB (s.drop o) p) (by rw [hre]; exact hre2)
     rw [hre] at this
     have hcl : (codesL fl).length = fl.length := by simp [codesL]
     omega
    rw [show 8 * o + p + re.2.1 = 8 * o + (p + re.2.1) by omega] at hr2
    generalize p + re.2.1 = p2 at *
    generalize re.1 = sy at *
    by_cases h16 : sy < 16
    ·have ht : timesS (s.drop o) l sy ⟨p2, out, 0⟩ = (1, sy, ⟨p2, out, 0⟩) := by unfold timesS; rw [if_neg (by omega), if_neg (by omega), if_neg (by omega)]
     have hov : overS N l (1, sy, ⟨p2, out, 0⟩) = ⟨p2, out, 0⟩ := by unfold overS; rw [if_neg (by simp only; omega)]
     rw [ht, hov, if_neg (by simp)] at hg
     simp only at hg
     have hsb : sub3 (nats l) 0 l.length = nats l := nats_take
     simp (disch := omega) only [go_sem, simprocAttr, hre2, hnl, hsb, nats_cells]
     refine hR1 (l ++ [sy], a2, hv2, p2) _ (by simp only [List.length_append, List.length_singleton]; omega) ⟨?_, ?_, hr2, k, ?_, hg⟩ (.le (by rw [nats_app]; simp (disch := omega) only [go_sem, simprocAttr, stI, rdA, tblA, List.length_append, List.length_singleton]))
     ·intro n hn
      rcases List.mem_append.1 hn with hn | hn
      ·exact hl n hn
      ·rw [List.mem_singleton.1 hn]; omega
     ·simp only [List.length_append, List.length_singleton]; omega
     ·simp only [List.length_append, List.length_singleton]; omega
    ·simp (disch := omega) only [go_sem, simprocAttr, hre2]
     refine vcW_cut (y := Cod.itables_26) hN (fun z : Nat × Nat × Nat => ⟨[(0, .vptr 65032 0), (7, .int .i64 nl), (8, .int .i64 nd), (14, tblA fl), (16, .sl 62110 0 l.length), (19, .int .i64 z.1), (20, .int .i64 z.2.1), (21, .int .i64 z.2.2), (2000000, .vptr 65032 0)], stI s o most a2 hv2 out ++ [(62110, .arr 1 (nats l))]⟩)
      (fun z => z.1 ≤ 7 ∧ 1 ≤ z.2.1 ∧ z.2.1 ≤ 11 ∧ z.2.2 ≤ 15 ∧ timesS (s.drop o) l sy ⟨p2, out, 0⟩ = (z.2.1 + (numS (s.drop o) z.1 ⟨p2, out, 0⟩).1, z.2.2, (numS (s.drop o) z.1 ⟨p2, out, 0⟩).2)) (fun R2 hR2 => ?_) (fun z hz => ?_)
     ·by_cases e16 : sy = 16
      ·subst e16
       by_cases hle : l = []
       ·subst hle
        have ht : timesS (s.drop o) [] 16 ⟨p2, out, 0⟩ = (0, 0, ⟨p2, out, 3⟩) := by unfold timesS; rw [if_pos rfl, if_pos rfl, fail_of rfl]
        have hov : overS N [] (0, 0, ⟨p2, out, 3⟩) = ⟨p2, out, 3⟩ := if_neg (by simp)
        rw [ht, hov, if_pos (by simp)] at hg
        simp (disch := omega) only [go_sem, simprocAttr, nats_nil]
        exact pt_bad hR 3 (by rw [hbadG (by rw [← hg]; simp), ← hg]) (by decide) a2 hv2 (by simp (disch := omega) only [go_sem, simprocAttr, stI, rdA])
       ·have hl0 : 0 < l.length := by cases l with | nil => exact absurd rfl hle | cons => simp
        have el : (l.length : Int) - 1 = ((l.length - 1 : Nat) : Int) := by omega
        have hz : ¬ ((l.length : Int) = 0) := by omega
        have hx : nth (nats l) (l.length - 1) = .int .i64 (l.getD (l.length - 1) 0 : Nat) := nth_nats (by omega)
        have hx15 : l.getD (l.length - 1) 0 ≤ 15 := len15 hl _
        have ht : timesS (s.drop o) l 16 ⟨p2, out, 0⟩ = (3 + (numS (s.drop o) 2 ⟨p2, out, 0⟩).1, l.getD (l.length - 1) 0, (numS (s.drop o) 2 ⟨p2, out, 0⟩).2) := by unfold timesS; rw [if_pos rfl, if_neg hle]
        generalize l.getD (l.length - 1) 0 = x at *
        simp (disch := omega) only [go_sem, simprocAttr, hnl, hz, el, hx]
        exact hR2 (2, 3, x) _ ⟨by simp, by simp, by simp, hx15, ht⟩ (.le (by simp (disch := omega) only [go_sem, simprocAttr, stI, rdA, tblA]))
      ·by_cases e17 : sy = 17
       ·subst e17
        simp (disch := omega) only [go_sem, simprocAttr]
        exact hR2 (3, 3, 0) _ ⟨by decide, by decide, by decide, by decide, rfl⟩ (.le (by simp (disch := omega) only [go_sem, simprocAttr, stI, rdA, tblA]))
       ·obtain rfl : sy = 18 := by omega
        simp (disch := omega) only [go_sem, simprocAttr]
        exact hR2 (7, 11, 0) _ ⟨by decide, by decide, by decide, by decide, rfl⟩ (.le (by simp (disch := omega) only [go_sem, simprocAttr, stI, rdA, tblA]))
     ·obtain ⟨nb, least, what⟩ := z
      simp only at hz ⊢
      obtain ⟨g1, g0, g2, g3, g4⟩ := hz
      rw [g4] at hg
      refine it_cp s o most a2 hv2 N out l fl nl nd p2 nb least what D hN hs ho hR hr2 g1 g2 hNN hN1 hll (fun h => ?_) (fun n a' hv' st' hn hpl hlo hr3 hw => ?_)
      ·rw [if_pos h] at hg
       rw [hbadG (by rw [← hg]; exact h), ← hg]
      ·rw [num_ok rfl hpl] at hg
       simp only at hg
       rw [← hn] at hg
       have hov : overS N l (least + n, what, ⟨p2 + nb, out, 0⟩) = ⟨p2 + nb, out, 0⟩ := by unfold overS; rw [if_neg (by simp only; omega)]
       rw [hov, if_neg (by simp)] at hg
       refine hR1 (l ++ List.replicate (least + n) what, a', hv', p2 + nb) _ (by simp only [List.length_append, List.length_replicate]; omega) ⟨?_, ?_, hr3, k, ?_, hg⟩ hw
       ·intro n hn
        rcases List.mem_append.1 hn with hn | hn
        ·exact hl n hn
        ·rw [(List.mem_replicate.1 hn).2]; exact g3
       ·simp only [List.length_append, List.length_replicate]; omega
       ·simp only [List.length_append, List.length_replicate]; omega
   ·have hsym : symS (s.drop o) fl ⟨p, out, 0⟩ = (0, ⟨p, out, re.2.2⟩) := by
     have := sym_no (t := s.drop o) (l := fl) (S := ⟨p, out, 0⟩) rfl (by simp only; rw [hre]; exact hre2)
     simp only [hre] at this
     exact this
    rw [hsym] at hg
    simp only at hg
    have ht : timesS (s.drop o) l 0 ⟨p, out, re.2.2⟩ = (1, 0, ⟨p, out, re.2.2⟩) := by unfold timesS; rw [if_neg (by omega), if_neg (by omega), if_neg (by omega)]
    have hov : overS N l (1, 0, ⟨p, out, re.2.2⟩) = ⟨p, out, re.2.2⟩ := by unfold overS; rw [if_neg (by simp only; omega)]
    rw [ht, hov, if_pos (by simpa using hre2)] at hg
    have hi : ¬ ((re.2.2 : Nat) : Int) = 0 := by omega
    simp (disch := omega) only [go_sem, simprocAttr, hi]
    exact pt_bad hR re.2.2 (by rw [hbadG (by rw [← hg]; exact hre2), ← hg]) hre2 a2 hv2 (by simp (disch := omega) only [go_sem, simprocAttr, stI, rdA])
  ·have hlt2 : ¬ (l.length : Int) < (nl : Int) + (nd : Int) := by omega
   have hGe : (l, (⟨p, out, 0⟩ : SS)) = G := by
    rw [← hg]
    cases k with
    | zero => rfl
    | succ k => rw [lens_succ, if_pos (.inl (by omega))]
   subst hGe
   have hsb : sub3 (nats l) 0 l.length = nats l := nats_take
   simp (disch := omega) only [go_sem, simprocAttr, stI, hnl, hlt2]
   exact hRX (a, hv) _ ⟨hr, rfl, hl, by simp only; omega⟩ (.frz 62110 (.le (by simp (disch := omega) only [go_sem, simprocAttr, stI, rdA, tblA, hsb])))
 ·obtain ⟨a', hv'⟩ := z
  obtain ⟨g1, g2, g3, g4⟩ := hz
  refine it_d s o most a' hv' out G.1 nl G.2.p D hN hR g3 h1 h2 (by omega) (by omega) g1 ?_
  rw [hD]
  unfold lensF
  rw [if_neg (by rw [g2]; simp)]
  obtain ⟨G1, G2⟩ := G
  simp only at g2
  rw [g2]
end Go.Proofs.YtjoefngnjoofeaaDoor.Pk
namespace Go.Proofs.YtjoefngnjoofeaaDoor.Pk
open Eng
set_option maxRecDepth 10000
set_option maxHeartbeats 2000000 in
theorem it_f (s : Bs) (o most a hv : Nat) (out : Bs) (nl nd nc p : Nat) (D : (List Nat × List Nat) × SS) {E : Env} {R : HP → AV → List AV → Prop} (hN : E.N ≤ 1000000) (hs : s.length ≤ 1000000000) (ho : o ≤ s.length)
    (hR : PostTo (PTo s o most out D) R) (hr : RdOK s a hv (8 * o + p)) (h1 : 257 ≤ nl) (h2 : nl ≤ 286) (h3 : 1 ≤ nd) (h4 : nd ≤ 30) (hc : nc ≤ 19)
    (hD : D = firstF (s.drop o) nl nd (firstS (s.drop o) nc nc (List.replicate 19 0) ⟨p, out, 0⟩)) :
    vcW Tryd.prog E Cod.itables_6 (QT R) ⟨[(0, .vptr 65032 0), (7, .int .i64 nl), (8, .int .i64 nd), (9, .int .i64 nc), (10, .sl 62057 0 19), (2000000, .vptr 65032 0)], [(62057, .arr 1 (nats (List.replicate 19 0))), (40014, .var (rdA s a hv o)), (65032, .var [.vptr 40014 0, .sl 60022 0 out.length, .int .i64 most]), (60022, .arr 1 (out.map ub))]⟩ := by
 generalize hG : firstS (s.drop o) nc nc (List.replicate 19 0) ⟨p, out, 0⟩ = G at hD
 have htl : (s.drop o).length = s.length - o := List.length_drop
 have hbadG : G.2.err ≠ 0 → D.2.err = G.2.err := by
  intro h
  rw [hD]
  unfold firstF
  rw [if_pos h]
 refine vcW_cut (y := Cod.itables_7) hN (fun z : Nat × Nat => ⟨[(0, .vptr 65032 0), (7, .int .i64 nl), (8, .int .i64 nd), (10, .ro 1 (nats G.1)), (2000000, .vptr 65032 0)], stI s o most z.1 z.2 out⟩)
  (fun z => RdOK s z.1 z.2 (8 * o + G.2.p) ∧ G.2 = ⟨G.2.p, out, 0⟩ ∧ (∀ n ∈ G.1, n ≤ 15) ∧ G.1.length = 19) (fun RX hRX => ?_) (fun z hz => ?_)
 ·simp (disch := omega) only [go_sem, simprocAttr, stI]
  refine vcW_loop hN (fun q : Nat × List Nat × Nat × Nat × Nat => ⟨[(0, .vptr 65032 0), (7, .int .i64 nl), (8, .int .i64 nd), (10, .sl 62057 0 19), (58, .int .i64 nc), (59, .int .i64 q.1), (2000000, .vptr 65032 0)], stI s o most q.2.2.1 q.2.2.2.1 out ++ [(62057, .arr 1 (nats q.2.1))]⟩)
   (fun q => q.1 ≤ nc ∧ (∀ n ∈ q.2.1, n ≤ 15) ∧ q.2.1.length = 19 ∧ RdOK s q.2.2.1 q.2.2.2.1 (8 * o + q.2.2.2.2) ∧ firstS (s.drop o) nc (nc - q.1) q.2.1 ⟨q.2.2.2.2, out, 0⟩ = G) (fun q => nc - q.1) (0, List.replicate 19 0, a, hv, p)
   (.le (by simp (disch := omega) only [go_sem, simprocAttr, stI])) ⟨by simp, by simp, by simp, hr, hG⟩ ?_
  clear hr hG
  rintro ⟨j, l, a, hv, p⟩ R1 ⟨hj, hl, hll, hr, hg⟩ hR1
  simp only at hj hl hll hr hg
  have hnl := nats_len l
  by_cases hlt : j < nc
  ·obtain ⟨m, hm⟩ : ∃ m, nc - j = m + 1 := ⟨nc - j - 1, by omega⟩
   rw [hm, firstS_succ, if_neg (by simp), show nc - (m + 1) = j by omega] at hg
   have hpl := places_lt j (by omega)
   have hx : nth (nats placesL) j = .int .i64 (placesL.getD j 0 : Nat) := nth_nats (by have : placesL.length = 19 := rfl; omega)
   have hpn : (nats placesL).length = 19 := rfl
   have hx2 : (nats placesL).getD j .undef = .int .i64 (placesL.getD j 0 : Nat) := by
    have hl : j < placesL.length := by have : placesL.length = 19 := rfl; omega
    simp [nats, List.getD_eq_getElem?_getD, hl]
   have hord := iorder_ok
   unfold ordA at hord
   generalize placesL.getD j 0 = pj at *
   have hb := rbits_d s o p a hv 3 hs hr (by omega)
   have hxl : nth (nats l) pj = .int .i64 (l.getD pj 0 : Nat) := nth_nats (by omega)
   simp (disch := omega) only [go_sem, simprocAttr, stI]
   refine call_win [(RD, .var (rdA s a hv o))] hb (by simp (disch := omega) only [go_sem, simprocAttr]) nofun ?_
   rintro h' v ar ⟨a1, hv1, hr1, rfl, rfl, rfl⟩
   by_cases hf : 3 ≤ 8 * (s.drop o).length - p
   ·rw [if_pos hf] at hr1
    rw [if_pos hf, decide_eq_true hf]
    rw [num_ok rfl (by simp only; omega)] at hg
    simp only at hg
    have hlt3 := num_lt (s.drop o) p 3
    generalize numAt (s.drop o) p 3 = x at *
    refine ⟨by simp (disch := omega) only [go_sem, simprocAttr, rdA], rfl, ?_⟩
    simp (disch := omega) only [go_sem, simprocAttr]
    refine call_ro hord rfl rfl ?_
    simp (disch := omega) only [go_sem, simprocAttr, hx2, hpn, hnl, hll, hxl, nats_set]
    refine hR1 (j + 1, l.set pj x, a1, hv1, p + 3) _ (by simp only; omega) ⟨hlt, ?_, by simp [hll], hr1, by simp only; rw [show nc - (j + 1) = m by omega]; exact hg⟩ (.le (by simp (disch := omega) only [go_sem, simprocAttr, stI, rdA]))
    intro n hn
    rcases List.mem_or_eq_of_mem_set hn with hn | hn
    ·exact hl n hn
    ·omega
   ·rw [if_neg hf] at hr1
    rw [if_neg hf, decide_eq_false hf]
    rw [num_no rfl (by simp only; omega)] at hg
    simp only at hg
    rw [firstS_err _ _ _ _ _ (by simp)] at hg
    refine ⟨by simp (disch := omega) only [go_sem, simprocAttr, rdA], rfl, ?_⟩
    simp (disch := omega) only [go_sem, simprocAttr]
    exact pt_bad hR 6 (by rw [hbadG (by rw [← hg]; simp), ← hg]) (by decide) a1 hv1 (by simp (disch := omega) only [go_sem, simprocAttr, stI, rdA])
  ·obtain rfl : j = nc := by omega
   rw [Nat.sub_self] at hg
   have hGe : (l, (⟨p, out, 0⟩ : SS)) = G := hg
   subst hGe
   have hsub : sub3 (nats l) 0 19 = nats l := by rw [← hll]; exact nats_take
   simp (disch := omega) only [go_sem, simprocAttr, stI]
   exact hRX (a, hv) _ ⟨hr, rfl, hl, hll⟩ (.frz 62057 (.le (by simp (disch := omega) only [go_sem, simprocAttr, stI, rdA, hsub])))
 ·obtain ⟨a', hv'⟩ := z
  obtain ⟨g1, g2, g3, g4⟩ := hz
  simp only at g1 g2 g3 g4 ⊢
  have n1 := hnew_ok G.1 g3 (by omega)
  unfold firstF at hD
  rw [if_neg (by rw [g2]; simp)] at hD
  cases hck : chkL G.1 with
  | false =>
   rw [hck, if_neg (by decide)] at n1
   rw [if_pos hck] at hD
   simp (disch := omega) only [go_sem, simprocAttr, stI]
   refine call_ro' n1 rfl ?_
   rintro h' v as' ⟨rfl, rfl⟩
   refine ⟨rfl, rfl, ?_⟩
   simp (disch := omega) only [go_sem, simprocAttr]
   exact pt_bad hR 3 (by rw [hD]) (by decide) a' hv' (by simp (disch := omega) only [go_sem, simprocAttr, stI, rdA])
  | true =>
   rw [hck, if_pos rfl] at n1
   rw [if_neg (by rw [hck]; decide), g2] at hD
   have hb := it_b s o most a' hv' out G.1 nl nd G.2.p D (E := E) (R := R) hN hs ho hR g1 g3 g4 hck h1 h2 h3 h4 hD
   simp (disch := omega) only [go_sem, simprocAttr, stI]
   refine call_ro' n1 rfl ?_
   rintro h' v as' ⟨rfl, rfl⟩
   refine ⟨rfl, rfl, ?_⟩
   simp only [stI, tblA] at hb
   simp (disch := omega) only [go_sem, simprocAttr, tblA]
   exact hb
theorem and31 {n : Nat} (h : n < 65536) : bits .and .u32 (n : Int) 31 = ((n % 32 : Nat) : Int) := by
 show IntKind.u32.wrap ((BitVec.ofInt 32 (n : Int) &&& BitVec.ofInt 32 ((31 : Nat) : Int)).toNat : Int) = _
 rw [BitVec.ofInt_natCast, BitVec.ofInt_natCast, BitVec.toNat_and, BitVec.toNat_ofNat, BitVec.toNat_ofNat, Nat.mod_eq_of_lt (by omega), Nat.mod_eq_of_lt (by decide), show (31 : Nat) = 2 ^ 5 - 1 from rfl, Nat.and_two_pow_sub_one_eq_mod]
 exact wrap_u32 (by omega)
theorem fdiv_pow (x k : Nat) (h : k ≤ 32) : (x : Int).fdiv (2 ^ min k 32) = ((x / 2 ^ k : Nat) : Int) := by
 rw [Nat.min_eq_left h, Int.fdiv_eq_ediv_of_nonneg _ (by exact_mod_cast Nat.zero_le (2 ^ k))]
 norm_cast
set_option maxHeartbeats 1000000 in
theorem itables_ok (s : Bs) (o most a hv : Nat) (S : SS) (hs : s.length ≤ 1000000000) (ho : o ≤ s.length) (hm : most ≤ 1000000) (hr : RdOK s a hv (8 * o + S.p)) (hol : S.out.length ≤ most) (he : S.err = 0) :
    Eng.Spec Tryd.prog 79 (stI s o most a hv S.out) [.vptr IST 0] (fun h' v ar => PT s o most S.out (dynS (s.drop o) S) h' v ∧ ar = [.vptr IST 0]) := by
 refine Cod.itables_spec (fun E R hN hR => ?_)
 have htl : (s.drop o).length = s.length - o := List.length_drop
 have hb := rbits_d s o S.p a hv 14 hs hr (by omega)
 rw [dynS_eq] at hR
 obtain ⟨p, out, err⟩ := S
 simp only at he hr hol hb hR ⊢
 subst he
 simp (disch := omega) only [go_sem, simprocAttr, stI]
 refine call_win [(RD, .var (rdA s a hv o))] hb (by simp (disch := omega) only [go_sem, simprocAttr]) nofun ?_
 rintro h' v ar ⟨a1, hv1, hr1, rfl, rfl, rfl⟩
 by_cases h14 : 14 ≤ 8 * (s.drop o).length - p
 ·rw [if_pos h14] at hr1
  rw [if_pos h14, decide_eq_true h14]
  rw [if_neg (by omega)] at hR
  refine ⟨by simp (disch := omega) only [go_sem, simprocAttr, rdA], rfl, ?_⟩
  have hlt := num_lt (s.drop o) p 14
  have m5 := num_mod (s.drop o) p (m := 5) (n := 14) (by decide)
  have d5 := num_div (s.drop o) p (m := 5) (n := 14) (by decide)
  have d10 := num_div (s.drop o) p (m := 10) (n := 14) (by decide)
  have m55 := num_mod (s.drop o) (p + 5) (m := 5) (n := 9) (by decide)
  generalize numAt (s.drop o) p 14 = x at *
  have f5 := fdiv_pow x 5 (by decide)
  have f10 := fdiv_pow x 10 (by decide)
  have c1 := and31 (n := x) (by omega)
  have c2 := and31 (n := x / 2 ^ 5) (by omega)
  have w1 : x % 32 = numAt (s.drop o) p 5 := m5
  have w2 : x / 2 ^ 5 % 32 = numAt (s.drop o) (p + 5) 5 := by rw [d5]; exact m55
  have w3 : x / 2 ^ 10 = numAt (s.drop o) (p + 10) 4 := d10
  rw [← w1, ← w2, ← w3] at hR
  have b1 : x % 32 < 32 := Nat.mod_lt _ (by decide)
  have b2 : x / 2 ^ 5 % 32 < 32 := Nat.mod_lt _ (by decide)
  have b3 : x / 2 ^ 10 < 16 := by omega
  generalize x % 32 = y1 at *
  generalize x / 2 ^ 5 % 32 = y2 at *
  generalize x / 2 ^ 10 = y3 at *
  have bad : (286 < y1 + 257 ∨ 30 < y2 + 1) → R [(40014, Win.var (rdA s a1 hv1 o)), (65032, Win.var [AV.vptr 40014 0, AV.sl 60022 0 (List.length out), AV.int IntKind.i64 ↑most]), (60022, Win.arr 1 (List.map ub out))] (.tup [.lit (.pointer none), .lit (.pointer none), .int .i64 3]) [.vptr 65032 0] := by
   intro hx
   rw [if_pos hx] at hR
   exact pt_bad hR 3 rfl (by decide) a1 hv1 (by simp (disch := omega) only [go_sem, simprocAttr, stI, rdA])
  by_cases hx1 : 286 < y1 + 257
  ·have bad := bad (.inl hx1)
   simp (disch := omega) only [go_sem, simprocAttr, f5, f10, c1, c2]
   (repeat (first | refine gskip_of ?_ | refine gcskip_of ?_ | refine gopen_of ?_) <;> simp (disch := omega) only [go_sem, simprocAttr])
   exact bad
  ·by_cases hx2 : 30 < y2 + 1
   ·have bad := bad (.inr hx2)
    simp (disch := omega) only [go_sem, simprocAttr, f5, f10, c1, c2]
    (repeat (first | refine gskip_of ?_ | refine gcskip_of ?_ | refine gopen_of ?_) <;> simp (disch := omega) only [go_sem, simprocAttr])
    exact bad
   ·rw [if_neg (by omega)] at hR
    clear bad
    have hf := it_f s o most a1 hv1 out (y1 + 257) (y2 + 1) (y3 + 4) (p + 14) _ (E := E) (R := R) hN hs ho hR hr1 (by omega) (by omega) (by omega) (by omega) (by omega) rfl
    clear hR
    simp (disch := omega) only [go_sem, simprocAttr, f5, f10, c1, c2]
    (repeat (first | refine gskip_of ?_ | refine gcskip_of ?_ | refine gopen_of ?_) <;> simp (disch := omega) only [go_sem, simprocAttr])
    simp only [rdA] at hf
    simp (disch := omega) only [go_sem, simprocAttr, rdA]
    exact hf
 ·rw [if_neg h14] at hr1
  rw [if_neg h14, decide_eq_false h14]
  rw [if_pos (by omega)] at hR
  refine ⟨by simp (disch := omega) only [go_sem, simprocAttr, rdA], rfl, ?_⟩
  simp (disch := omega) only [go_sem, simprocAttr]
  exact pt_bad hR 6 rfl (by decide) a1 hv1 (by simp (disch := omega) only [go_sem, simprocAttr, stI, rdA])
end Go.Proofs.YtjoefngnjoofeaaDoor.Pk
namespace Go.Proofs.YtjoefngnjoofeaaDoor.Pk
open Eng
set_option maxRecDepth 10000
theorem and1 {n : Nat} (h : n < 65536) : bits .and .u32 (n : Int) 1 = ((n % 2 : Nat) : Int) := by
 show IntKind.u32.wrap ((BitVec.ofInt 32 (n : Int) &&& BitVec.ofInt 32 ((1 : Nat) : Int)).toNat : Int) = _
 rw [BitVec.ofInt_natCast, BitVec.ofInt_natCast, BitVec.toNat_and, BitVec.toNat_ofNat, BitVec.toNat_ofNat, Nat.mod_eq_of_lt (by omega), Nat.mod_eq_of_lt (by decide), show (1 : Nat) = 2 ^ 1 - 1 from rfl, Nat.and_two_pow_sub_one_eq_mod]
 exact wrap_u32 (by omega)
abbrev QR (R : HP → AV → List AV → Prop) : KQ := KQ.post [.tmp 2] 1 R
abbrev PRo (s : Bs) (o most : Nat) (G : SS) : HP → AV → List AV → Prop := fun h' v ar => PI s o most G h' v ∧ ar = [.vptr IST 0]
theorem pr_bad {s : Bs} {o most : Nat} {G : SS} {R : HP → AV → List AV → Prop} (hR : PostTo (PRo s o most G) R) (e : Nat) (he : G.err = e) (hne : e ≠ 0) (a' hv' : Nat) (out : Bs) {h : HP} (hh : leH h (stI s o most a' hv' out)) :
    R h (.int .i64 (e : Nat)) [.vptr 65032 0] :=
 hR.le (h' := stI s o most a' hv' out) hh ⟨⟨a', hv', out, rfl, by rw [he], fun h => absurd h (by rw [he]; exact hne)⟩, rfl⟩
def doneG (t : Bs) (most h : Nat) (S G : SS) : Prop := if h % 2 = 1 then S = G else runS t most S = G
def contG (t : Bs) (most h : Nat) (S G : SS) : Prop := if S.err ≠ 0 then G.err = S.err else doneG t most h S G
structure RSt where
 h : Nat
 l : List Nat
 d : List Nat
 a : Nat
 hv : Nat
 S : SS
def irF (s : Bs) (o most : Nat) (l : Nat) (z : RSt) : St :=
 if l = 0 then ⟨[(0, .vptr 65032 0), (2000000, .vptr 65032 0)], stI s o most z.a z.hv z.S.out⟩
 else if l = 1 then ⟨[(0, .vptr 65032 0), (3, .int .u32 z.h), (2000000, .vptr 65032 0)], stI s o most z.a z.hv z.S.out⟩
 else ⟨[(0, .vptr 65032 0), (3, .int .u32 z.h), (7, tblA z.l), (8, tblA z.d), (2000000, .vptr 65032 0)], stI s o most z.a z.hv z.S.out⟩
structure RB (s : Bs) (o most : Nat) (z : RSt) : Prop where
 r : RdOK s z.a z.hv (8 * o + z.S.p)
 e : z.S.err = 0
 ol : z.S.out.length ≤ most
 hl : z.h < 8
structure TB (l d : List Nat) : Prop where
 l15 : ∀ n ∈ l, n ≤ 15
 d15 : ∀ n ∈ d, n ≤ 15
 ll : l.length ≤ 320
 dl : d.length ≤ 320
 lc : chkL l = true
 dc : chkL d = true
def irI (s : Bs) (o most : Nat) (G : SS) (l : Nat) (z : RSt) : Prop :=
 RB s o most z ∧ (if l = 0 then runS (s.drop o) most z.S = G else if l = 1 then doneG (s.drop o) most z.h z.S G else if l = 2 then TB z.l z.d ∧ contG (s.drop o) most z.h (packS (s.drop o) most z.l z.d z.S) G else False)
def irM (s : Bs) (o l : Nat) (z : RSt) : Nat := 4 * (8 * (s.drop o).length + 1 - z.S.p) + min l 2
theorem RB.pl {s : Bs} {o most : Nat} {z : RSt} (h : RB s o most z) : z.S.p ≤ 8 * (s.drop o).length := by
 have := h.r.h2; have := h.r.h3
 rw [List.length_drop]; omega
set_option maxHeartbeats 2000000 in
theorem irun_b (s : Bs) (o most : Nat) (G : SS) (z : RSt) {E : Env} {R : Nat → KS} {R0 : HP → AV → List AV → Prop} (hN : E.N ≤ 1000000) (hs : s.length ≤ 1000000000) (ho : o ≤ s.length) (hm : most ≤ 1000000) (hR : PostTo (PRo s o most G) R0) (hz : RB s o most z) (hg : runS (s.drop o) most z.S = G)
    (hJ : ∀ l' z' st', irM s o l' z' < irM s o 0 z → irI s o most G l' z' → Wk st' (irF s o most l' z') → (R l').ap st') :
    vcW Tryd.prog E Cod.irun_7 (KQ.jmps R (QR R0)) ⟨[(0, .vptr 65032 0), (2000000, .vptr 65032 0)], stI s o most z.a z.hv z.S.out⟩ := by
 have hpl := hz.pl
 obtain ⟨h, l, d, a, hv, S⟩ := z
 obtain ⟨hr, he, hol, hh⟩ := hz
 simp only at hr he hol hh hg hpl ⊢
 rw [run_eq hpl] at hg
 have htl : (s.drop o).length = s.length - o := List.length_drop
 have hb := rbits_d s o S.p a hv 3 hs hr (by omega)
 simp (disch := omega) only [go_sem, simprocAttr, stI]
 refine call_win [(RD, .var (rdA s a hv o))] hb (by simp (disch := omega) only [go_sem, simprocAttr]) nofun ?_
 rintro h' v ar ⟨a1, hv1, hr1, rfl, rfl, rfl⟩
 by_cases h3 : 3 ≤ 8 * (s.drop o).length - S.p
 ·rw [if_pos h3] at hr1
  rw [if_pos h3, decide_eq_true h3]
  have hbk : blockS (s.drop o) most S = _ := if_neg (show ¬ 8 * (s.drop o).length < S.p + 3 by omega)
  rw [hbk] at hg
  clear hbk
  have m1 := num_mod (s.drop o) S.p (m := 1) (n := 3) (by decide)
  have d1 := num_div (s.drop o) S.p (m := 1) (n := 3) (by decide)
  have hlt := num_lt (s.drop o) S.p 3
  simp only at hg
  rw [← m1, show (2 : Nat) = 3 - 1 from rfl, ← d1] at hg
  generalize numAt (s.drop o) S.p 3 = x at *
  have f1 := fdiv_pow x 1 (by decide)
  refine ⟨by simp (disch := omega) only [go_sem, simprocAttr, rdA], rfl, ?_⟩
  have hx1 : x % 2 ^ 1 = x % 2 := rfl
  have hx2 : x / 2 ^ 1 = x / 2 := rfl
  rw [hx1, hx2] at hg
  rw [hx2] at f1
  have hxl : x / 2 < 4 := by omega
  -- the end of a block
  have hdone : ∀ S' : SS, (if x / 2 = 0 then storedS (s.drop o) most { S with p := S.p + 3 } else if x / 2 = 1 then packS (s.drop o) most fixL fixD { S with p := S.p + 3 }
      else if x / 2 = 2 then (if (dynS (s.drop o) { S with p := S.p + 3 }).2.err ≠ 0 then (dynS (s.drop o) { S with p := S.p + 3 }).2 else packS (s.drop o) most (dynS (s.drop o) { S with p := S.p + 3 }).1.1 (dynS (s.drop o) { S with p := S.p + 3 }).1.2 (dynS (s.drop o) { S with p := S.p + 3 }).2) else { S with p := S.p + 3, err := 3 }) = S' →
      contG (s.drop o) most x S' G := by
   intro S' hS'
   rw [hS'] at hg
   unfold contG
   by_cases hSe : S'.err = 0
   ·rw [if_neg (by simpa using hSe)]
    unfold doneG
    by_cases hx : x % 2 = 1
    ·rw [if_pos (.inr (by simpa using hx))] at hg
     rw [if_pos hx]; exact hg
    ·rw [if_neg (fun h => h.elim (fun h => h hSe) (fun h => hx (by simpa using h)))] at hg
     rw [if_neg hx]; exact hg
   ·rw [if_pos (.inl hSe)] at hg
    rw [if_pos hSe, hg]
  clear hg
  have hr1' : RdOK s a1 hv1 (8 * o + (S.p + 3)) := hr1
  simp (disch := omega) only [go_sem, simprocAttr, f1]
  obtain hk | hk | hk | hk : x / 2 = 0 ∨ x / 2 = 1 ∨ x / 2 = 2 ∨ x / 2 = 3 := by omega
  ·rw [hk]
   have hst := istored_ok s o most a1 hv1 { S with p := S.p + 3 } hs ho hm hr1' hol he
   have hc := hdone _ (if_pos hk)
   have hmv : Mv (s.drop o) most { S with p := S.p + 3 } (storedS (s.drop o) most { S with p := S.p + 3 }) := mv_stored
   generalize storedS (s.drop o) most { S with p := S.p + 3 } = F at *
   simp (disch := omega) only [go_sem, simprocAttr]
   refine call_win (stI s o most a1 hv1 S.out) hst (by simp (disch := omega) only [go_sem, simprocAttr, stI, rdA]) nofun ?_
   rintro h' v ar ⟨⟨a2, hv2, out2, rfl, rfl, hF⟩, rfl⟩
   refine ⟨by simp (disch := omega) only [go_sem, simprocAttr, stI, rdA], rfl, ?_⟩
   unfold contG at hc
   by_cases hFe : F.err = 0
   ·obtain ⟨rfl, hr2⟩ := hF hFe
    rw [if_neg (by simpa using hFe)] at hc
    simp (disch := omega) only [go_sem, simprocAttr, hFe]
    have h1 := hmv.p
    simp only at h1
    exact hJ 1 ⟨x, [], [], a2, hv2, F⟩ _ (by simp only [irM]; omega) ⟨⟨hr2, hFe, hmv.o hol, by simp only; omega⟩, by rw [if_neg (by decide), if_pos rfl]; exact hc⟩ (.le (by simp (disch := omega) only [go_sem, simprocAttr, irF, stI, rdA]))
   ·rw [if_pos hFe] at hc
    have hi : ¬ ((F.err : Nat) : Int) = 0 := by omega
    simp (disch := omega) only [go_sem, simprocAttr, hi]
    exact pr_bad hR F.err hc hFe a2 hv2 out2 (by simp (disch := omega) only [go_sem, simprocAttr, stI, rdA])
  ·rw [hk]
   have hc := hdone _ ((if_neg (by omega)).trans (if_pos hk))
   simp (disch := omega) only [go_sem, simprocAttr]
   refine call_ro ifixed_ok rfl rfl ?_
   simp (disch := omega) only [go_sem, simprocAttr, tblA]
   refine hJ 2 ⟨x, fixL, fixD, a1, hv1, { S with p := S.p + 3 }⟩ _ (by simp only [irM]; omega) ⟨⟨hr1', he, hol, by simp only; omega⟩, ?_⟩ (.le ?_)
   ·rw [if_neg (by decide), if_neg (by decide), if_pos rfl]
    exact ⟨⟨fixL_ok.1, fixD_ok.1, by simp only; rw [fixL_ok.2.1]; decide, by simp only; rw [fixD_ok.2.1]; decide, fixL_ok.2.2, fixD_ok.2.2⟩, hc⟩
   ·simp (disch := omega) only [go_sem, simprocAttr, irF, stI, rdA, tblA]
  ·rw [hk]
   have hit := itables_ok s o most a1 hv1 { S with p := S.p + 3 } hs ho hm hr1' hol he
   have hc := hdone _ ((if_neg (by omega)).trans ((if_neg (by omega)).trans (if_pos hk)))
   have hmv : Mv (s.drop o) most { S with p := S.p + 3 } (dynS (s.drop o) { S with p := S.p + 3 }).2 := mv_dyn
   have hdo := dyn_out (s.drop o) { S with p := S.p + 3 }
   generalize dynS (s.drop o) { S with p := S.p + 3 } = D at *
   simp (disch := omega) only [go_sem, simprocAttr]
   refine call_win (stI s o most a1 hv1 S.out) hit (by simp (disch := omega) only [go_sem, simprocAttr, stI, rdA]) nofun ?_
   rintro h' v ar ⟨⟨a2, hv2, rfl, hbad, hgood⟩, rfl⟩
   by_cases hDe : D.2.err = 0
   ·obtain ⟨rfl, hr2, hc1, hc2, hl1, hl2, hn1, hn2⟩ := hgood hDe
    rw [if_neg (by simpa using hDe)] at hc
    refine ⟨by simp (disch := omega) only [go_sem, simprocAttr, stI, rdA], rfl, ?_⟩
    simp (disch := omega) only [go_sem, simprocAttr, stI, rdA, tblA]
    have h1 := hmv.p
    simp only at h1 hdo
    refine hJ 2 ⟨x, D.1.1, D.1.2, a2, hv2, D.2⟩ _ (by simp only [irM]; omega) ⟨⟨hr2, hDe, by simp only; rw [hdo]; exact hol, by simp only; omega⟩, ?_⟩ (.le ?_)
    ·rw [if_neg (by decide), if_neg (by decide), if_pos rfl]
     exact ⟨⟨hl1, hl2, by simp only; omega, hn2, hc1, hc2⟩, hc⟩
    ·simp (disch := omega) only [go_sem, simprocAttr, irF, stI, rdA, tblA, hdo]
   ·obtain rfl := hbad hDe
    rw [if_pos hDe] at hc
    unfold contG at hc
    rw [if_pos hDe] at hc
    refine ⟨by simp (disch := omega) only [go_sem, simprocAttr, stI, rdA], rfl, ?_⟩
    have hi : ¬ ((D.2.err : Nat) : Int) = 0 := by omega
    simp (disch := omega) only [go_sem, simprocAttr, hi, tblN]
    exact pr_bad hR D.2.err hc hDe a2 hv2 S.out (by simp (disch := omega) only [go_sem, simprocAttr, stI, rdA])
  ·rw [hk]
   have hc := hdone _ ((if_neg (by omega)).trans ((if_neg (by omega)).trans (if_neg (by omega))))
   unfold contG at hc
   rw [if_pos (by simp)] at hc
   simp (disch := omega) only [go_sem, simprocAttr]
   exact pr_bad hR 3 hc (by decide) a1 hv1 S.out (by simp (disch := omega) only [go_sem, simprocAttr, stI, rdA])
 ·rw [if_neg h3] at hr1
  rw [if_neg h3, decide_eq_false h3]
  have hbk : blockS (s.drop o) most S = (true, { S with err := 6 }) := if_pos (show 8 * (s.drop o).length < S.p + 3 by omega)
  rw [hbk, if_pos (.inl (by simp))] at hg
  refine ⟨by simp (disch := omega) only [go_sem, simprocAttr, rdA], rfl, ?_⟩
  simp (disch := omega) only [go_sem, simprocAttr]
  exact pr_bad hR 6 (by rw [← hg]) (by decide) a1 hv1 S.out (by simp (disch := omega) only [go_sem, simprocAttr, stI, rdA])
set_option maxHeartbeats 2000000 in
theorem irun_s (s : Bs) (o most : Nat) (G : SS) (z : RSt) {E : Env} {R : Nat → KS} {R0 : HP → AV → List AV → Prop} (hN : E.N ≤ 1000000) (hs : s.length ≤ 1000000000) (ho : o ≤ s.length) (hm : most ≤ 1000000) (hR : PostTo (PRo s o most G) R0) (hz : RB s o most z) (ht : TB z.l z.d) (hg : contG (s.drop o) most z.h (packS (s.drop o) most z.l z.d z.S) G)
    (hJ : ∀ l' z' st', irM s o l' z' < irM s o 2 z → irI s o most G l' z' → Wk st' (irF s o most l' z') → (R l').ap st') :
    vcW Tryd.prog E (.seq .skip Cod.irun_11) (KQ.jmps R (QR R0)) ⟨[(0, .vptr 65032 0), (3, .int .u32 z.h), (7, tblA z.l), (8, tblA z.d), (2000000, .vptr 65032 0)], stI s o most z.a z.hv z.S.out⟩ := by
 have hpl := hz.pl
 obtain ⟨h, l, d, a, hv, S⟩ := z
 obtain ⟨hr, he, hol, hh⟩ := hz
 simp only at hr he hol hh hg hpl ht ⊢
 rw [pack_eq hpl, if_neg (by simpa using he)] at hg
 have htl : (s.drop o).length = s.length - o := List.length_drop
 have hread := hread_ok l ht.l15 ht.ll ht.lc s a hv o (8 * o + S.p) (by omega) hr
 rw [← rest_drop] at hread
 simp only [tblA] at hread
 generalize hre : readL (codesL l) (restB (s.drop o) S.p) = re at *
 simp (disch := omega) only [go_sem, simprocAttr, stI, tblA]
 refine call_win [(RD, .var (rdA s a hv o))] hread (by simp (disch := omega) only [go_sem, simprocAttr]) nofun ?_
 rintro h' v ar ⟨a2, hv2, p2, sy, hr2, rfl, rfl, hk2, rfl⟩
 refine ⟨by simp (disch := omega) only [go_sem, simprocAttr, rdA], rfl, ?_⟩
 by_cases hre2 : re.2.2 = 0
 ·obtain ⟨rfl, rfl⟩ := hk2 hre2
  have hsym : symS (s.drop o) l S = (re.1, { S with p := S.p + re.2.1 }) := by
   have := sym_ok (t := s.drop o) (l := l) (S := S) he (by rw [hre]; exact hre2)
   simp only [hre] at this
   exact this
  have hrb := read_bits (codesL l) (restB (s.drop o) S.p) (by rw [hre]; exact hre2)
  rw [hre, rest_len] at hrb
  have hcl : (codesL l).length = l.length := by simp [codesL]
  have hll := ht.ll
  rw [show 8 * o + S.p + re.2.1 = 8 * o + (S.p + re.2.1) by omega] at hr2
  have hst : stepS (s.drop o) most l d S = (if re.1 = 256 then (true, { S with p := S.p + re.2.1 }) else if re.1 < 256 then (false, putS most (UInt8.ofNat re.1) { S with p := S.p + re.2.1 }) else (false, repS (s.drop o) most d re.1 { S with p := S.p + re.2.1 })) := by
   unfold stepS
   rw [hsym]
   exact if_neg (by simpa using he)
  rw [hst] at hg
  have hp2 : S.p < S.p + re.2.1 ∧ S.p + re.2.1 ≤ 8 * (s.drop o).length := by omega
  generalize S.p + re.2.1 = p2 at *
  have hsy : re.1 ≤ 320 := by omega
  generalize re.1 = sy at *
  by_cases h256 : sy = 256
  ·rw [if_pos h256, if_pos rfl] at hg
   unfold contG at hg
   rw [if_neg (by simpa using he)] at hg
   simp (disch := omega) only [go_sem, simprocAttr, hre2, h256]
   refine hJ 1 ⟨h, [], [], a2, hv2, { S with p := p2 }⟩ _ (by simp only [irM]; omega) ⟨⟨hr2, he, hol, hh⟩, ?_⟩ (.le ?_)
   ·rw [if_neg (by decide), if_pos rfl]; exact hg
   ·simp (disch := omega) only [go_sem, simprocAttr, irF, stI, rdA]
  ·rw [if_neg h256] at hg
   have hi : ¬ ((sy : Nat) : Int) = 256 := by omega
   simp (disch := omega) only [go_sem, simprocAttr, hre2, hi]
   -- behind the symbol
   refine vcW_cut (y := Cod.irun_14) hN (fun y : Nat × Nat × Bs × SS => ⟨[(0, .vptr 65032 0), (3, .int .u32 h), (5, .int .i64 y.2.2.2.err), (7, tblA l), (8, tblA d), (2000000, .vptr 65032 0)], stI s o most y.1 y.2.1 y.2.2.1⟩)
    (fun y => Mv (s.drop o) most { S with p := p2 } y.2.2.2 ∧ contG (s.drop o) most h (packS (s.drop o) most l d y.2.2.2) G ∧ (y.2.2.2.err = 0 → y.2.2.1 = y.2.2.2.out ∧ RdOK s y.1 y.2.1 (8 * o + y.2.2.2.p))) (fun R2 hR2 => ?_) (fun y hy => ?_)
   ·by_cases hlt : sy < 256
    ·rw [if_pos hlt, if_neg (by simp)] at hg
     simp only at hg
     have hput := iput_ok s o most a2 hv2 S.out hm hol (UInt8.ofNat sy)
     have hmv : Mv (s.drop o) most { S with p := p2 } (putS most (UInt8.ofNat sy) { S with p := p2 }) := mv_put
     have hF : putS most (UInt8.ofNat sy) { S with p := p2 } = ⟨p2, if S.out.length = most then S.out else S.out ++ [UInt8.ofNat sy], if S.out.length = most then 2 else 0⟩ := by
      unfold putS
      rw [if_neg (by simpa using he)]
      simp only
      by_cases hf : S.out.length = most
      ·rw [if_pos (by omega), if_pos hf, if_pos hf]
      ·rw [if_neg (by omega), if_neg hf, if_neg hf, he]
     have hb : ((UInt8.ofNat sy).toNat : Int) = (sy : Int) := by rw [UInt8.toNat_ofNat']; omega
     rw [hb] at hput
     generalize putS most (UInt8.ofNat sy) { S with p := p2 } = F at *
     have hF1 : F.out = (if S.out.length = most then S.out else S.out ++ [UInt8.ofNat sy]) := by rw [hF]
     have hF2 : F.err = (if S.out.length = most then 2 else 0) := by rw [hF]
     have hF3 : F.p = p2 := by rw [hF]
     rw [← hF1, ← hF2] at hput
     clear hF hF1
     have hlt2 : ((sy : Nat) : Int) < 256 := by omega
     simp (disch := omega) only [go_sem, simprocAttr, hlt2]
     refine call_win (stI s o most a2 hv2 S.out) hput (by simp (disch := omega) only [go_sem, simprocAttr, stI, rdA]) nofun ?_
     rintro h' v ar ⟨rfl, rfl, rfl⟩
     refine ⟨by simp (disch := omega) only [go_sem, simprocAttr, stI, rdA], rfl, ?_⟩
     simp (disch := omega) only [go_sem, simprocAttr, stI, rdA, tblA]
     exact hR2 (a2, hv2, F.out, F) _ ⟨hmv, hg, fun _ => ⟨rfl, by rw [hF3]; exact hr2⟩⟩ (.le (by simp (disch := omega) only [go_sem, simprocAttr, stI, rdA, tblA]))
    ·rw [if_neg hlt, if_neg (by simp)] at hg
     simp only at hg
     have hrp := irepeat_ok s o most a2 hv2 { S with p := p2 } d sy hs ho hm hr2 hol he ht.d15 ht.dl ht.dc (by omega) (by omega)
     have hmv : Mv (s.drop o) most { S with p := p2 } (repS (s.drop o) most d sy { S with p := p2 }) := mv_rep
     generalize repS (s.drop o) most d sy { S with p := p2 } = F at *
     have hlt2 : ¬ ((sy : Nat) : Int) < 256 := by omega
     simp only [tblA] at hrp
     simp (disch := omega) only [go_sem, simprocAttr, hlt2, tblA]
     refine call_win (stI s o most a2 hv2 S.out) hrp (by simp (disch := omega) only [go_sem, simprocAttr, stI, rdA]) nofun ?_
     rintro h' v ar ⟨⟨a3, hv3, out3, rfl, rfl, hF⟩, rfl⟩
     refine ⟨by simp (disch := omega) only [go_sem, simprocAttr, stI, rdA], rfl, ?_⟩
     simp (disch := omega) only [go_sem, simprocAttr, stI, rdA, tblA]
     exact hR2 (a3, hv3, out3, F) _ ⟨hmv, hg, hF⟩ (.le (by simp (disch := omega) only [go_sem, simprocAttr, stI, rdA, tblA]))
   ·obtain ⟨a3, hv3, out3, F⟩ := y
    obtain ⟨g1, g2, g3⟩ := hy
    simp only at g1 g2 g3 ⊢
    by_cases hFe : F.err = 0
    ·obtain ⟨rfl, hr3⟩ := g3 hFe
     simp (disch := omega) only [go_sem, simprocAttr, hFe, tblA]
     have h1 := g1.p
     have h2 := g1.q hp2.2
     simp only at h1
     refine hJ 2 ⟨h, l, d, a3, hv3, F⟩ _ (by simp only [irM]; omega) ⟨⟨hr3, hFe, g1.o hol, hh⟩, ?_⟩ (.le ?_)
     ·rw [if_neg (by decide), if_neg (by decide), if_pos rfl]
      exact ⟨ht, g2⟩
     ·simp (disch := omega) only [go_sem, simprocAttr, irF, stI, rdA, tblA]
    ·rw [show packS (s.drop o) most l d F = F from pack_err _ hFe] at g2
     unfold contG at g2
     rw [if_pos hFe] at g2
     have hi : ¬ ((F.err : Nat) : Int) = 0 := by omega
     simp (disch := omega) only [go_sem, simprocAttr, hi, tblA]
     exact pr_bad hR F.err g2 hFe a3 hv3 out3 (by simp (disch := omega) only [go_sem, simprocAttr, stI, rdA])
 ·have hsym : symS (s.drop o) l S = (0, { S with err := re.2.2 }) := by
   have := sym_no (t := s.drop o) (l := l) (S := S) he (by rw [hre]; exact hre2)
   simp only [hre] at this
   exact this
  have hst : stepS (s.drop o) most l d S = (true, { S with err := re.2.2 }) := by
   unfold stepS
   rw [hsym]
   exact if_pos hre2
  rw [hst, if_pos rfl] at hg
  unfold contG at hg
  rw [if_pos hre2] at hg
  have hi : ¬ ((re.2.2 : Nat) : Int) = 0 := by omega
  simp (disch := omega) only [go_sem, simprocAttr, hi]
  exact pr_bad hR re.2.2 hg hre2 a2 hv2 S.out (by simp (disch := omega) only [go_sem, simprocAttr, stI, rdA])
set_option maxHeartbeats 1000000 in
theorem irun_ok (s : Bs) (o most a hv : Nat) (S : SS) (hs : s.length ≤ 1000000000) (ho : o ≤ s.length) (hm : most ≤ 1000000) (hr : RdOK s a hv (8 * o + S.p)) (hol : S.out.length ≤ most) (he : S.err = 0) :
    Eng.Spec Tryd.prog 67 (stI s o most a hv S.out) [.vptr IST 0] (fun h' v ar => PI s o most (runS (s.drop o) most S) h' v ∧ ar = [.vptr IST 0]) := by
 refine Cod.irun_spec (fun E R hN hR => ?_)
 generalize hG : runS (s.drop o) most S = G at *
 simp (disch := omega) only [go_sem, simprocAttr, stI]
 refine vcW_scopes hN (irF s o most) (irI s o most G) (irM s o) (fun R1 hR1 => ?_) (fun l z hz => ?_)
 ·simp (disch := omega) only [go_sem, simprocAttr]
  refine vcW_cut (y := Cod.irun_7) hN (fun _ : Unit => ⟨[(0, .vptr 65032 0), (2000000, .vptr 65032 0)], stI s o most a hv S.out⟩) (fun _ => True) (fun R2 hR2 => ?_) (fun _ _ => ?_)
  ·simp (disch := omega) only [go_sem, simprocAttr]
   exact hR2 () _ trivial (.le (by simp (disch := omega) only [go_sem, simprocAttr, stI, rdA]))
  ·exact irun_b s o most G ⟨0, [], [], a, hv, S⟩ hN hs ho hm hR ⟨hr, he, hol, by simp⟩ hG (fun l' z' st' _ h1 h2 => hR1 l' z' st' h1 h2)
 ·obtain ⟨h1, h2⟩ := hz
  by_cases l0 : l = 0
  ·subst l0
   rw [if_pos rfl] at h2
   refine ⟨.seq .skip (.mid Cod.irun_7), rfl, fun R1 hR1 => ?_⟩
   simp (disch := omega) only [go_sem, simprocAttr, irF]
   refine vcW_mid hN ?_
   exact irun_b s o most G z hN hs ho hm hR h1 h2 hR1
  ·rw [if_neg l0] at h2
   by_cases l1 : l = 1
   ·subst l1
    rw [if_pos rfl] at h2
    refine ⟨.seq .skip Cod.irun_17, rfl, fun R1 hR1 => ?_⟩
    have ha := and1 (n := z.h) (by have := h1.hl; omega)
    unfold doneG at h2
    by_cases hx : z.h % 2 = 1
    ·rw [if_pos hx] at h2
     have hi : ¬ ((z.h % 2 : Nat) : Int) = 0 := by omega
     simp (disch := omega) only [go_sem, simprocAttr, irF, ha, hi, stI]
     refine hR.le (h' := stI s o most z.a z.hv z.S.out) (by simp (disch := omega) only [go_sem, simprocAttr, stI, rdA]) ⟨⟨z.a, z.hv, z.S.out, rfl, ?_, fun _ => by rw [← h2]; exact ⟨rfl, h1.r⟩⟩, rfl⟩
     rw [← h2, h1.e]; rfl
    ·rw [if_neg hx] at h2
     have hi : ((z.h % 2 : Nat) : Int) = 0 := by omega
     simp (disch := omega) only [go_sem, simprocAttr, irF, ha, hi, stI]
     refine hR1 0 z _ (by simp only [irM]; omega) ⟨h1, by rw [if_pos rfl]; exact h2⟩ (.le ?_)
     simp (disch := omega) only [go_sem, simprocAttr, irF, stI, rdA]
   ·rw [if_neg l1] at h2
    by_cases l2 : l = 2
    ·subst l2
     rw [if_pos rfl] at h2
     exact ⟨.seq .skip Cod.irun_11, rfl, fun R1 hR1 => irun_s s o most G z hN hs ho hm hR h1 h2.1 h2.2 hR1⟩
    ·rw [if_neg l2] at h2
     exact h2.elim
end Go.Proofs.YtjoefngnjoofeaaDoor.Pk
namespace Go.Proofs.YtjoefngnjoofeaaDoor.Pk
open Eng
set_option maxRecDepth 10000
theorem bnew_okR (s : Bs) (a : Nat) (hs : s.length ≤ 1000000000000) (ha : a ≤ s.length) : Eng.Spec Tryd.prog 66 [] [.str s, .int .i64 a] (fun h r ar => h = [(RD, .var (rdA s a 0 a))] ∧ r = .vptr RD 0 ∧ ar = [.undef, .undef]) := by
 refine Cod.bnew_spec (fun E R hN hR => ?_)
 have e : max (0 : Int) (min (a : Int) (s.length : Int)) = a := by omega
 simp (disch := omega) only [go_sem, simprocAttr, e]
 exact hR.le (by simp (disch := omega) only [go_sem, simprocAttr, rdA, numAt]) ⟨rfl, rfl, rfl⟩
set_option maxHeartbeats 1000000 in
theorem inflate_ok (s : Bs) (o most : Nat) (hs : s.length ≤ 1000000000) (ho : o ≤ s.length) (hm : most ≤ 65536) :
    SpecR Tryd.prog 44 [.str s, .int .i64 o, .int .i64 most] (.tup [.str (inflS (s.drop o) most).1, .int .i64 ((inflS (s.drop o) most).2.1 : Nat), .int .i64 ((inflS (s.drop o) most).2.2 : Nat)]) := by
 refine Cod.inflate_spec (fun E R hN hR => ?_)
 have htl : (s.drop o).length = s.length - o := List.length_drop
 have hnew := bnew_okR s o (by omega) ho
 have hr0 : RdOK s o 0 (8 * o + 0) := ⟨by omega, ho, by omega⟩
 have hrun := irun_ok s o most o 0 ⟨0, [], 0⟩ hs ho (by omega) hr0 (by simp) rfl
 unfold inflS at hR
 simp only at hR
 generalize hF : runS (s.drop o) most ⟨0, [], 0⟩ = F at *
 simp (disch := omega) only [go_sem, simprocAttr]
 (repeat (first | refine gskip_of ?_ | refine gcskip_of ?_ | refine gopen_of ?_) <;> simp (disch := omega) only [go_sem, simprocAttr])
 refine call_win [] hnew trivial (fun _ => rfl) ?_
 rintro h' v as' ⟨rfl, rfl, rfl⟩
 refine ⟨by simp (disch := omega) only [go_sem, simprocAttr, rdA], rfl, ?_⟩
 simp (disch := omega) only [go_sem, simprocAttr]
 refine call_wk ⟨[(33, .vptr 65032 0), (9, .vptr 65032 0)], stI s o most o 0 []⟩ (.nilV 65032 1 60022 1 [.vptr 40014 0, .nilsl, .int .i64 most] rfl rfl rfl (.le ?_)) rfl ?_
 ·simp (disch := omega) only [go_sem, simprocAttr, stI, rdA]
 refine call_win (stI s o most o 0 []) hrun (by simp (disch := omega) only [go_sem, simprocAttr, stI, rdA]) nofun ?_
 rintro h' v ar ⟨⟨a3, hv3, out3, rfl, rfl, hPI⟩, rfl⟩
 refine ⟨by simp (disch := omega) only [go_sem, simprocAttr, stI, rdA], rfl, ?_⟩
 by_cases he : F.err = 0
 ·obtain ⟨rfl, hr3⟩ := hPI he
  rw [if_neg (by simpa using he)] at hR
  have hu := rused_bor s a3 hv3 o (8 * o + F.p) (by omega) hr3 (by omega)
  have e1 : (8 * o + F.p + 7) / 8 - o = (F.p + 7) / 8 := by omega
  rw [e1] at hu
  simp only [rdA] at hu
  simp (disch := omega) only [go_sem, simprocAttr, he, stI, rdA]
  refine call_bor [] (by simp (disch := omega) only [go_sem, simprocAttr]) hu trivial (fun _ => rfl) ?_
  rintro h' v ar ⟨rfl, rfl, rfl⟩
  refine ⟨rfl, rfl, ?_⟩
  simp (disch := omega) only [go_sem, simprocAttr]
  exact hR.wk (h' := []) (r' := .tup [.str F.out, .int .i64 ((F.p + 7) / 8 : Nat), .int .i64 (0 : Nat)]) (ar' := [.undef, .undef, .undef]) rfl (.le (by simp (disch := omega) only [go_sem, simprocAttr])) ⟨rfl, rfl⟩
 ·rw [if_pos he] at hR
  have hi : ¬ ((F.err : Nat) : Int) = 0 := by omega
  simp (disch := omega) only [go_sem, simprocAttr, hi]
  exact hR.wk (h' := []) (r' := .tup [.str [], .int .i64 (0 : Nat), .int .i64 (F.err : Nat)]) (ar' := [.undef, .undef, .undef]) rfl (.le (by simp (disch := omega) only [go_sem, simprocAttr])) ⟨rfl, rfl⟩
end Go.Proofs.YtjoefngnjoofeaaDoor.Pk
namespace Go.Proofs.YtjoefngnjoofeaaDoor.Pk
open Eng Sh
set_option maxRecDepth 10000
theorem mv_runF {t : Bs} {most : Nat} : ∀ (k : Nat) (S : SS), Mv t most S (runF t most k S)
 | 0, _ => .refl
 | k + 1, S => by
  unfold runF
  split
  ·exact mv_block.1
  ·exact mv_block.1.trans (mv_runF k _)
theorem inf_len (t : Bs) (most : Nat) : (inflS t most).1.length ≤ most ∧ (inflS t most).2.1 ≤ t.length := by
 unfold inflS
 simp only
 have h := mv_runF (t := t) (most := most) (8 * t.length + 1 - 0) ⟨0, [], 0⟩
 have h1 : (runS t most ⟨0, [], 0⟩).p ≤ 8 * t.length := h.q (by simp)
 have h2 : (runS t most ⟨0, [], 0⟩).out.length ≤ most := h.o (by simp)
 split
 ·exact ⟨by simp, by simp⟩
 ·exact ⟨h2, by simp only; omega⟩
def zlibS (t : Bs) (most : Nat) : Bs × Nat × Nat :=
 if t.length < 2 then ([], 0, 6) else if headB (t.getD 0 0).toNat (t.getD 1 0).toNat = false then ([], 0, 3) else
 if (inflS (t.drop 2) most).2.2 ≠ 0 then ([], 0, (inflS (t.drop 2) most).2.2) else
 if t.length - (2 + (inflS (t.drop 2) most).2.1) < 4 then ([], 0, 6) else
 if bigN ((t.drop (2 + (inflS (t.drop 2) most).2.1)).take 4) ≠ adlV (inflS (t.drop 2) most).1 then ([], 0, 5) else ((inflS (t.drop 2) most).1, (inflS (t.drop 2) most).2.1 + 6, 0)
theorem zlib_len (t : Bs) (most : Nat) : (zlibS t most).1.length ≤ most ∧ (zlibS t most).2.1 ≤ t.length := by
 have h := inf_len (t.drop 2) most
 rw [List.length_drop] at h
 unfold zlibS
 split
 ·exact ⟨by simp, by simp⟩
 ·split
  ·exact ⟨by simp, by simp⟩
  ·split
   ·exact ⟨by simp, by simp⟩
   ·split
    ·exact ⟨by simp, by simp⟩
    ·split
     ·exact ⟨by simp, by simp⟩
     ·exact ⟨h.1, by simp only; omega⟩
abbrev zV (Z : Bs × Nat × Nat) : AV := .tup [.str Z.1, .int .i64 (Z.2.1 : Nat), .int .i64 (Z.2.2 : Nat)]
set_option maxHeartbeats 1000000 in
theorem zread_ok (s : Bs) (o most : Nat) (hs : s.length ≤ 1000000) (ho : o ≤ s.length) (hm : most ≤ 65536) : SpecR Tryd.prog 27 [.str s, .int .i64 o, .int .i64 most] (zV (zlibS (s.drop o) most)) := by
 refine Cod.zread_spec (fun E R hN hR => ?_)
 unfold zlibS at hR
 have hdl : (s.drop o).length = s.length - o := List.length_drop
 rw [hdl] at hR
 by_cases h2 : s.length - o < 2
 ·rw [if_pos h2] at hR
  have hi : (s.length : Int) - (o : Int) < 2 := by omega
  simp (disch := omega) only [go_sem, simprocAttr, hi]
  (repeat (first | refine gskip_of ?_ | refine gcskip_of ?_ | refine gopen_of ?_) <;> simp (disch := omega) only [go_sem, simprocAttr, hi])
  exact hR.ro ⟨rfl, rfl⟩
 ·rw [if_neg h2] at hR
  have hi : ¬ (s.length : Int) - (o : Int) < 2 := by omega
  have gd : ∀ i, (s.drop o).getD i 0 = s.getD (o + i) 0 := fun i => by rw [List.getD_eq_getElem?_getD, List.getElem?_drop, ← List.getD_eq_getElem?_getD]
  rw [gd, gd, Nat.add_zero] at hR
  have hh := zhead_ok (s.getD o 0) (s.getD (o + 1) 0)
  by_cases hb : headB (s.getD o 0).toNat (s.getD (o + 1) 0).toNat = false
  ·rw [if_pos hb] at hR
   rw [hb] at hh
   simp (disch := omega) only [go_sem, simprocAttr, hi]
   (repeat (first | refine gskip_of ?_ | refine gcskip_of ?_ | refine gopen_of ?_) <;> simp (disch := omega) only [go_sem, simprocAttr, hi])
   refine call_ro hh rfl rfl ?_
   simp (disch := omega) only [go_sem, simprocAttr]
   exact hR.ro ⟨rfl, rfl⟩
  ·rw [if_neg hb] at hR
   rw [show headB (s.getD o 0).toNat (s.getD (o + 1) 0).toNat = true by simpa using hb] at hh
   have hinf := inflate_ok s (o + 2) most (by omega) (by omega) hm
   have hil := inf_len (s.drop (o + 2)) most
   rw [List.drop_drop] at hR
   generalize inflS (s.drop (o + 2)) most = I at *
   rw [List.length_drop] at hil
   simp (disch := omega) only [go_sem, simprocAttr, hi]
   (repeat (first | refine gskip_of ?_ | refine gcskip_of ?_ | refine gopen_of ?_) <;> simp (disch := omega) only [go_sem, simprocAttr, hi])
   refine call_ro hh rfl rfl ?_
   simp (disch := omega) only [go_sem, simprocAttr]
   refine call_ro hinf rfl rfl ?_
   by_cases he : I.2.2 = 0
   ·rw [if_neg (by simpa using he)] at hR
    by_cases h4 : s.length - o - (2 + I.2.1) < 4
    ·rw [if_pos h4] at hR
     have hj : (s.length : Int) - ((o : Int) + 2 + (I.2.1 : Int)) < 4 := by omega
     simp (disch := omega) only [go_sem, simprocAttr, he, hj]
     exact hR.ro ⟨rfl, rfl⟩
    ·rw [if_neg h4] at hR
     have hj : ¬ (s.length : Int) - ((o : Int) + 2 + (I.2.1 : Int)) < 4 := by omega
     rw [List.drop_drop] at hR
     have e1 : o + (2 + I.2.1) = o + 2 + I.2.1 := by omega
     rw [e1] at hR
     generalize hu : (s.drop (o + 2 + I.2.1)).take 4 = u at *
     have hul : u.length = 4 := by rw [← hu, List.length_take, List.length_drop]; omega
     have hfb := frombig_ok u (by omega)
     have had := adler_ok I.1 (by omega)
     have hal := adlV_lt I.1
     have hbl : bigN u < 4294967296 := by
      have := bigN_lt u 4 (by omega)
      rw [List.take_of_length_le (by omega)] at this
      exact this
     have et : ((o : Int) + 2 + (I.2.1 : Int)).toNat = o + 2 + I.2.1 := by omega
     have et4 : ((o : Int) + 2 + (I.2.1 : Int) + 4).toNat - (o + 2 + I.2.1) = 4 := by omega
     simp (disch := omega) only [go_sem, simprocAttr, he, hj, et, et4, hu]
     refine call_ro hfb rfl rfl ?_
     simp (disch := omega) only [go_sem, simprocAttr]
     refine call_ro had rfl rfl ?_
     generalize bigN u = x at *
     generalize adlV I.1 = y at *
     by_cases hxy : x = y
     ·rw [if_neg (by simpa using hxy)] at hR
      have hi : ((x : Nat) : Int) = (y : Int) := by omega
      simp (disch := omega) only [go_sem, simprocAttr, hi]
      exact hR.ro ⟨rfl, rfl⟩
     ·rw [if_pos hxy] at hR
      have hi : ¬ ((x : Nat) : Int) = (y : Int) := by omega
      simp (disch := omega) only [go_sem, simprocAttr, hi]
      exact hR.ro ⟨rfl, rfl⟩
   ·rw [if_pos he] at hR
    have hj : ¬ ((I.2.2 : Nat) : Int) = 0 := by omega
    simp (disch := omega) only [go_sem, simprocAttr, hj]
    exact hR.ro ⟨rfl, rfl⟩
end Go.Proofs.YtjoefngnjoofeaaDoor.Pk
namespace Go.Proofs.YtjoefngnjoofeaaDoor.Pk
open Eng
set_option maxRecDepth 10000
theorem hit_unique {l : List Nat} (hc : totL l ≤ 32768) (hl : ∀ n ∈ l, n ≤ 15) {b : List Bool} {s t : Nat} (hs : s < l.length) (ht : t < l.length) (h1 : hitL b (codeL l s) = true) (h2 : hitL b (codeL l t) = true) : s = t := by
 have key : ∀ {s t : Nat}, s < l.length → t < l.length → hitL b (codeL l s) = true → hitL b (codeL l t) = true → l.getD s 0 < l.getD t 0 → False := by
  intro s t hs ht h1 h2 hlt
  obtain ⟨a1, a2, a3⟩ := (hit_iff hc hl b hs).1 h1
  obtain ⟨b1, b2, b3⟩ := (hit_iff hc hl b ht).1 h2
  have hr := rk_lt l hs
  obtain ⟨k, hk⟩ : ∃ k, l.getD t 0 = l.getD s 0 + k := ⟨l.getD t 0 - l.getD s 0, by omega⟩
  have hm := (msb_take_le b (l.getD s 0) k (by omega)).2
  have hf := fst_up l (l.getD s 0) k a1
  rw [if_neg (by omega), Nat.add_zero] at hf
  rw [← hk] at hm hf
  rw [a3, b3] at hm
  have h4 : (cwL l s + 1) * 2 ^ k ≤ (fstL l (l.getD s 0) + cntL l (l.getD s 0)) * 2 ^ k := Nat.mul_le_mul_right _ (by unfold cwL; omega)
  have h5 : fstL l (l.getD t 0) ≤ cwL l t := by unfold cwL; omega
  omega
 rcases Nat.lt_trichotomy (l.getD s 0) (l.getD t 0) with h | h | h
 ·exact (key hs ht h1 h2 h).elim
 ·obtain ⟨a1, a2, a3⟩ := (hit_iff hc hl b hs).1 h1
  obtain ⟨b1, b2, b3⟩ := (hit_iff hc hl b ht).1 h2
  rw [h] at a3
  refine rk_inj l hs ht h ?_
  have : cwL l s = cwL l t := by rw [← a3, b3]
  unfold cwL at this
  rw [h] at this
  omega
 ·exact (key ht hs h2 h1 h).elim
theorem read_code {l : List Nat} (hck : chkL l = true) (hl : ∀ n ∈ l, n ≤ 15) {s : Nat} (hs : s < l.length) (h1 : 1 ≤ l.getD s 0) (R : List Bool) : readL (codesL l) (codeL l s ++ R) = (s, (codeL l s).length, 0) := by
 have hc : totL l ≤ 32768 := by unfold chkL at hck; simp at hck; exact hck.1
 have hlen := code_len l s
 have hh : hitL (codeL l s ++ R) (codeL l s) = true := by
  unfold hitL
  have : (codeL l s).isEmpty = false := by
   cases h : codeL l s with
   | nil => rw [h, List.length_nil] at hlen; omega
   | cons => rfl
  rw [this]
  simp [List.isPrefixOf_iff_prefix]
 unfold readL
 rw [findIdx_one hs hh (fun t ht h => hit_unique hc hl ht hs h hh)]
 simp only [codes_get l hs]
theorem rest_on {t : Bs} {p : Nat} {A R : List Bool} (h : restB t p = A ++ R) : restB t (p + A.length) = R := by
 have e : restB t (p + A.length) = (restB t p).drop A.length := by
  unfold restB
  apply List.ext_getElem?
  intro j
  simp only [List.getElem?_drop, List.getElem?_map]
  by_cases hj : p + A.length + j < 8 * t.length
  ·rw [List.getElem?_range (by omega), List.getElem?_range (by omega)]
   show some (bitB t (p + A.length + j)) = some (bitB t (p + (A.length + j)))
   rw [Nat.add_assoc]
  ·rw [List.getElem?_eq_none (by simp; omega), List.getElem?_eq_none (by simp; omega)]; rfl
 rw [e, h, List.drop_left]
theorem rest_room {t : Bs} {p : Nat} {A R : List Bool} (h : restB t p = A ++ R) (hp : p ≤ 8 * t.length) : p + A.length ≤ 8 * t.length := by
 have := rest_len t p
 rw [h, List.length_append] at this
 omega
theorem num_on {t : Bs} {p x n : Nat} {R : List Bool} (h : restB t p = lowB x n ++ R) (hp : p ≤ 8 * t.length) (hx : x < 2 ^ n) : numAt t p n = x := by
 have hr := rest_room h hp
 rw [low_len] at hr
 rw [← numB_at t p n hr, h, List.take_left' (low_len x n), numB_low, Nat.mod_eq_of_lt hx]
theorem numS_on {t : Bs} {x n : Nat} {R : List Bool} {S : SS} (h : restB t S.p = lowB x n ++ R) (hp : S.p ≤ 8 * t.length) (hx : x < 2 ^ n) (he : S.err = 0) : numS t n S = (x, { S with p := S.p + n }) := by
 have hr := rest_room h hp
 rw [low_len] at hr
 rw [num_ok he hr, num_on h hp hx]
theorem symS_on {t : Bs} {l : List Nat} (hck : chkL l = true) (hl : ∀ n ∈ l, n ≤ 15) {s : Nat} (hs : s < l.length) (h1 : 1 ≤ l.getD s 0) {R : List Bool} {S : SS} (h : restB t S.p = codeL l s ++ R) (he : S.err = 0) :
    symS t l S = (s, { S with p := S.p + (codeL l s).length }) := by
 have hr := read_code hck hl hs h1 R
 rw [← h] at hr
 rw [sym_ok he (by rw [hr]), hr]
theorem len_room : ∀ i, i < 28 → (lenB (i + 1)).1 - (lenB i).1 ≤ 2 ^ (lenB i).2 := by decide +kernel
theorem dis_room : ∀ j, j < 29 → (disB (j + 1)).1 - (disB j).1 ≤ 2 ^ (disB j).2 := by decide +kernel
theorem back_on {s : Bs} {most p q n b : Nat} (hr : RepOK s q n b) (hm : s.length ≤ most) : ∀ (m k : Nat), k + m = n → backS most b m ⟨p, s.take (q + k), 0⟩ = ⟨p, s.take (q + n), 0⟩
 | 0, k, h => by
  rw [show k = n by omega]
  rfl
 | m + 1, k, h => by
  have hl := hr.len
  have hb := hr.bp
  have hb1 := hr.b1
  have htl : (s.take (q + k)).length = q + k := by rw [List.length_take]; omega
  have hget : (s.take (q + k)).getD (q + k - b) 0 = s.getD (q + k) 0 := by
   rw [List.getD_eq_getElem?_getD, List.getElem?_take, if_pos (by omega), ← List.getD_eq_getElem?_getD, show q + k - b = q - b + k by omega]
   exact hr.eq k (by omega)
  have hsn := take_snoc s 0 (show q + k < s.length by omega)
  rw [backS]
  simp only [htl, hget, putS]
  rw [if_neg (by simp), if_neg (by simp), if_neg (by omega), ← hsn]
  exact back_on hr hm m (k + 1) (by omega)
theorem lit_step {s t : Bs} {most p q : Nat} {R : List Bool} (hp : p ≤ 8 * t.length) (hq : q < s.length) (hm : s.length ≤ most) (h : restB t p = codeL fixL (s.getD q 0).toNat ++ R) :
    stepS t most fixL fixD ⟨p, s.take q, 0⟩ = (false, ⟨p + (codeL fixL (s.getD q 0).toNat).length, s.take (q + 1), 0⟩) := by
 have hc := (s.getD q 0).toNat_lt
 have hsy := symS_on (S := ⟨p, s.take q, 0⟩) fixL_chk fixL_le (by rw [fixL_len]; omega) (fixL_pos _ (by omega)) h rfl
 have htl : (s.take q).length = q := by rw [List.length_take]; omega
 have hsn := take_snoc s 0 hq
 unfold stepS
 simp only [hsy]
 rw [if_neg (by simp), if_neg (by omega), if_pos (by omega)]
 unfold putS
 simp only [htl]
 rw [if_neg (by simp), if_neg (by omega), UInt8.ofNat_toNat, ← hsn]
theorem rep_step {s t : Bs} {most p q n b i j : Nat} {R : List Bool} (hp : p ≤ 8 * t.length) (hm : s.length ≤ most) (hr : RepOK s q n b) (hs : SymOK n b i j) (h : restB t p = repB n b i j ++ R) :
    stepS t most fixL fixD ⟨p, s.take q, 0⟩ = (false, ⟨p + (repB n b i j).length, s.take (q + n), 0⟩) := by
 have hi := hs.i28
 have hj := hs.j29
 have hil := hs.il
 have hjl := hs.jl
 have h258 := hr.n258
 have h32 := hr.b32
 have hnx : n - (lenB i).1 < 2 ^ (lenB i).2 := by
  by_cases e : i = 28
  ·subst e
   have : lenB 28 = (258, 0) := rfl
   rw [this] at hil ⊢
   simp only at hil ⊢
   omega
  ·have h1 := len_room i (by omega)
   have h2 := hs.iu (i + 1) (by omega) (by omega)
   omega
 have hbx : b - (disB j).1 < 2 ^ (disB j).2 := by
  by_cases e : j = 29
  ·subst e
   have : disB 29 = (24577, 13) := rfl
   rw [this] at hjl ⊢
   simp only at hjl ⊢
   omega
  ·have h1 := dis_room j (by omega)
   have h2 := hs.ju (j + 1) (by omega) (by omega)
   omega
 unfold repB at h
 simp only [List.append_assoc] at h
 have g1 := rest_on h
 have r1 := rest_room h hp
 have g2 := rest_on g1
 have r2 := rest_room g1 r1
 have g3 := rest_on g2
 have r3 := rest_room g2 r2
 have hsy := symS_on (S := ⟨p, s.take q, 0⟩) fixL_chk fixL_le (by rw [fixL_len]; omega) (fixL_pos _ (by omega)) h rfl
 have hn1 := numS_on (S := ⟨p + (codeL fixL (257 + i)).length, s.take q, 0⟩) g1 r1 hnx rfl
 have hsd := symS_on (S := ⟨p + (codeL fixL (257 + i)).length + (lenB i).2, s.take q, 0⟩) (l := fixD) (s := j) fixD_chk fixD_le (by rw [fixD_len]; omega) (fixD_pos _ (by omega)) (by simp only; rw [low_len] at g2; exact g2) rfl
 rw [low_len] at g3 r2 r3
 have hn2 := numS_on (S := ⟨p + (codeL fixL (257 + i)).length + (lenB i).2 + (codeL fixD j).length, s.take q, 0⟩) g3 r3 hbx rfl
 have htl : (s.take q).length = q := by have := hr.len; rw [List.length_take]; omega
 unfold stepS
 simp only [hsy]
 rw [if_neg (by simp), if_neg (by omega), if_neg (by omega)]
 unfold repS
 rw [if_neg (by omega), show 257 + i - 257 = i by omega]
 simp only [hn1, hsd, hn2]
 rw [if_neg (by simp), if_neg (by omega), if_neg (by simp), htl, if_neg (by have := hr.bp; omega), show (lenB i).1 + (n - (lenB i).1) = n by omega, show (disB j).1 + (b - (disB j).1) = b by omega]
 have hb := back_on (p := p + (codeL fixL (257 + i)).length + (lenB i).2 + (codeL fixD j).length + (disB j).2) hr hm n 0 (by omega)
 rw [Nat.add_zero] at hb
 rw [hb]
 simp only [repB, List.length_append, low_len, Nat.add_assoc]
theorem enc_back {s t : Bs} {most p0 : Nat} (hm : s.length ≤ most) (hp0 : p0 ≤ 8 * t.length) {q : Nat} {bs : List Bool} (h : Enc s q bs) : ∀ R, restB t p0 = bs ++ R → q ≤ s.length ∧ packS t most fixL fixD ⟨p0 + 3, [], 0⟩ = packS t most fixL fixD ⟨p0 + bs.length, s.take q, 0⟩ := by
 induction h with
 | nil => intro R _; exact ⟨by omega, by rw [low_len]; rfl⟩
 | lit q bs h hq ih =>
  intro R hR
  rw [List.append_assoc] at hR
  obtain ⟨_, h2⟩ := ih _ hR
  refine ⟨by omega, h2.trans ?_⟩
  have hr := rest_room hR hp0
  rw [pack_eq (by simpa using hr), lit_step hr hq hm (rest_on hR), if_neg (by simp), if_neg (by simp), List.length_append, Nat.add_assoc]
 | rep q bs n b i j h hrep hs ih =>
  intro R hR
  rw [List.append_assoc] at hR
  obtain ⟨_, h2⟩ := ih _ hR
  refine ⟨hrep.len, h2.trans ?_⟩
  have hr := rest_room hR hp0
  rw [pack_eq (by simpa using hr), rep_step hr hm hrep hs (rest_on hR), if_neg (by simp), if_neg (by simp), List.length_append, Nat.add_assoc]
theorem rest_text (B : List Bool) (r : Bs) : ∃ R, restB (textB B ++ r) 0 = B ++ R := by
 refine ⟨(restB (textB B ++ r) 0).drop B.length, ?_⟩
 have hl : (textB B).length = (B.length + 7) / 8 := pack_len _ _
 have e : (restB (textB B ++ r) 0).take B.length = B := by
  apply List.ext_getElem?
  intro j
  by_cases hj : j < B.length
  ·rw [List.getElem?_take, if_pos hj]
   unfold restB
   rw [List.getElem?_map, List.getElem?_range (by rw [List.length_append, hl]; omega), Option.map_some, Nat.zero_add, List.getElem?_eq_getElem hj]
   congr 1
   unfold bitB
   rw [List.getD_eq_getElem?_getD, List.getElem?_append_left (by rw [hl]; omega)]
   unfold textB packN
   rw [List.getElem?_map, List.getElem?_range (by omega), Option.map_some, Option.getD_some]
   unfold byteN
   rw [UInt8.toNat_ofNat', show (2 : Nat) ^ 8 = 2 ^ 8 from rfl, Nat.testBit_mod_two_pow]
   have h8 : j % 8 < 8 := Nat.mod_lt _ (by decide)
   rw [decide_eq_true h8, Bool.true_and]
   have key : ∀ (l : List Bool) (k : Nat), (numB l).testBit k = l.getD k false := by
    intro l
    induction l with
    | nil => intro k; simp [numB]
    | cons c l ih =>
     intro k
     rw [numB_cons]
     cases k with
     | zero => cases c <;> simp [Nat.testBit_zero] <;> omega
     | succ k =>
      rw [Nat.testBit_succ, show (2 * numB l + c.toNat) / 2 = numB l by cases c <;> simp <;> omega, ih k]
      rfl
   rw [key, List.getD_eq_getElem?_getD, List.getElem?_drop, show 8 * (j / 8) + j % 8 = j by omega, List.getElem?_eq_getElem hj]
   rfl
  ·rw [List.getElem?_eq_none (by rw [List.length_take]; omega), List.getElem?_eq_none (by omega)]
 conv => lhs; rw [← List.take_append_drop B.length (restB (textB B ++ r) 0), e]
end Go.Proofs.YtjoefngnjoofeaaDoor.Pk
