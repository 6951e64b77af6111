/- The proof, part 17 of 23. -/
import Derived.Test.YtjoefngnjoofeaaGreatDoorPackReadsJ
import Derived.Test.YtjoefngnjoofeaaGreatDoorPackReadsM
import Derived.Test.YtjoefngnjoofeaaGreatDoorPackReadsP
import Derived.Test.YtjoefngnjoofeaaGreatDoorProg
import Derived.KernelRfl
set_option linter.all false
namespace Go.Proofs.YtjoefngnjoofeaaGreatDoor.Pk
open Eng Sh
set_option maxRecDepth 10000
def poly : W := 3988292384#32
def crcBit (c : W) : W := (c >>> 1) ^^^ (poly &&& -(c &&& 1#32))
def crcIt (c : W) : Nat → W
 | 0 => c
 | i + 1 => crcBit (crcIt c i)
def crcByte (c : W) (b : UInt8) : W := crcIt (c ^^^ BitVec.ofNat 32 b.toNat) 8
def crcF (c : W) (t : Bs) : W := t.foldl crcByte c
def ones : W := 4294967295#32
def crcT (t : Bs) : W := ~~~ (crcF ones t)
def refIt (r B : W) : Nat → W
 | 0 => r
 | i + 1 => if (refIt r B i ^^^ (B >>> i)) &&& 1#32 = 1#32 then (refIt r B i >>> 1) ^^^ poly else refIt r B i >>> 1
theorem and_one (y : W) : y &&& 1#32 = if (y &&& 1#32) = 1#32 then 1#32 else 0#32 := by
 split
 ·assumption
 ·rename_i h
  have h1 : (y &&& 1#32).toNat = y.toNat % 2 := by
   rw [BitVec.toNat_and, show (1#32).toNat = 2 ^ 1 - 1 from rfl, Nat.and_two_pow_sub_one_eq_mod]
  apply BitVec.eq_of_toNat_eq
  rw [h1]
  have h2 : ¬ y.toNat % 2 = 1 := fun h3 => h (BitVec.eq_of_toNat_eq (by rw [h1, h3]; rfl))
  show y.toNat % 2 = 0
  omega
theorem crc_ref (r B : W) : ∀ i, crcIt (r ^^^ B) i = refIt r B i ^^^ (B >>> i)
 | 0 => by simp [crcIt, refIt]
 | i + 1 => by
  have ih := crc_ref r B i
  unfold crcIt refIt crcBit
  rw [ih, and_one]
  have hs : (refIt r B i ^^^ B >>> i) >>> 1 = (refIt r B i >>> 1) ^^^ (B >>> (i + 1)) := by
   rw [BitVec.ushiftRight_xor_distrib, BitVec.shiftRight_add]
  rw [hs]
  by_cases h : (refIt r B i ^^^ B >>> i) &&& 1#32 = 1#32
  ·rw [if_pos h, if_pos rfl]
   have e : poly &&& -1#32 = poly := by decide
   rw [e, BitVec.xor_assoc, BitVec.xor_comm (B >>> (i + 1)), ← BitVec.xor_assoc]
  ·rw [if_neg h, if_neg (by decide)]
   have e : poly &&& -0#32 = 0#32 := by decide
   rw [e, BitVec.xor_zero]
theorem crc_byte (r : W) (b : UInt8) : refIt r (BitVec.ofNat 32 b.toNat) 8 = crcByte r b := by
 have h := crc_ref r (BitVec.ofNat 32 b.toNat) 8
 have e : (BitVec.ofNat 32 b.toNat) >>> 8 = 0#32 := by
  apply BitVec.eq_of_toNat_eq
  have := b.toNat_lt
  rw [BitVec.toNat_ushiftRight, BitVec.toNat_ofNat, Nat.mod_eq_of_lt (by omega), Nat.shiftRight_eq_div_pow]
  show b.toNat / 256 = 0
  omega
 rw [e, BitVec.xor_zero] at h
 exact h.symm
theorem crcF_take (c : W) (t : Bs) {k : Nat} (h : k < t.length) : crcF c (t.take (k + 1)) = crcByte (crcF c (t.take k)) (t.getD k 0) := by
 rw [take_succU t h]; simp [crcF]
theorem wneg (x : W) : IntKind.u32.wrap (0 - (x.toNat : Int)) = ((-x).toNat : Int) := by
 have hx := x.isLt
 show (0 - (x.toNat : Int)) % 4294967296 = _
 rw [BitVec.toNat_neg]
 omega
theorem u8w (b : UInt8) : (b.toNat : Int) = ((BitVec.ofNat 32 b.toNat).toNat : Int) := by
 have := b.toNat_lt
 rw [BitVec.toNat_ofNat, Nat.mod_eq_of_lt (by omega)]
theorem crcw_ok (c : W) (t : Bs) (ht : t.length ≤ 1000000000) : Eng.Spec Tryz.prog 55 [(122003, .var [.int .u32 c.toNat])] [.vptr 122003 0, .str t]
    (fun h' v ar => h' = [(122003, .var [.int .u32 (~~~ (crcF (~~~ c) t)).toNat])] ∧ v = .tup [] ∧ ar = [.vptr 122003 0, .str t]) := by
 refine Cod.crcw_spec (fun E R hN hR => ?_)
 have hnot : ∀ x : W, bits .xor .u32 (if IntKind.u32.signed = true then -1 else IntKind.u32.max) (x.toNat : Int) = ((~~~x).toNat : Int) := fun x => wnot x
 simp (disch := omega) only [go_sem, simprocAttr, hnot]
 refine vcW_loop hN (fun k : Nat => ⟨[(0, .vptr 122003 0), (1, .str t), (4, .int .u32 (crcF (~~~ c) (t.take k)).toNat), (12, .int .i64 t.length), (13, .int .i64 k), (2000000, .vptr 122003 0), (2000001, .str t)], [(122003, .var [.int .u32 c.toNat])]⟩) (fun k => k ≤ t.length) (fun k => t.length - k) 0 (.le (by simp (disch := omega) only [go_sem, simprocAttr]; simp [crcF])) (by omega) ?_
 rintro k R1 hk hR1
 by_cases hlt : k < t.length
 ·have hct := crcF_take (~~~ c) t hlt
  generalize crcF (~~~ c) (t.take k) = x at *
  have hb := u8w (t.getD k 0)
  have hx := wxor x (BitVec.ofNat 32 (t.getD k 0).toNat)
  rw [← hb] at hx
  have hbl := (t.getD k 0).toNat_lt
  simp (disch := omega) only [go_sem, simprocAttr, hx]
  refine vcW_loop hN (fun i : Nat => ⟨[(0, .vptr 122003 0), (1, .str t), (4, .int .u32 (crcIt (x ^^^ BitVec.ofNat 32 (t.getD k 0).toNat) i).toNat), (12, .int .i64 t.length), (13, .int .i64 k), (22, .int .i64 i), (2000000, .vptr 122003 0), (2000001, .str t)], [(122003, .var [.int .u32 c.toNat])]⟩) (fun i => i ≤ 8) (fun i => 8 - i) 0 (.le (by simp (disch := omega) only [go_sem, simprocAttr, crcIt])) (by omega) ?_
  rintro i R2 hi hR2
  by_cases hlt8 : i < 8
  ·have hst : crcIt (x ^^^ BitVec.ofNat 32 (t.getD k 0).toNat) (i + 1) = crcBit (crcIt (x ^^^ BitVec.ofNat 32 (t.getD k 0).toNat) i) := rfl
   generalize crcIt (x ^^^ BitVec.ofNat 32 (t.getD k 0).toNat) i = y at *
   have e1 : (y.toNat : Int).fdiv (2 ^ min 1 32) = (y >>> 1).toNat := wshr y 1
   have e2 : bits .and .u32 y.toNat 1 = (y &&& 1#32).toNat := wand y 1#32
   have e3 := wneg (y &&& 1#32)
   have e4 : bits .and .u32 3988292384 (-(y &&& 1#32)).toNat = (poly &&& -(y &&& 1#32)).toNat := wand poly _
   have e5 := wxor (y >>> 1) (poly &&& -(y &&& 1#32))
   simp (disch := omega) only [go_sem, simprocAttr, e1, e2, e3, e4, e5]
   exact hR2 (i + 1) _ (by omega) (by omega) (.le (by simp (disch := omega) only [go_sem, simprocAttr, hst, crcBit]))
  ·obtain rfl : i = 8 := by omega
   simp (disch := omega) only [go_sem, simprocAttr]
   exact hR1 (k + 1) _ (by omega) (by omega) (.le (by simp (disch := omega) only [go_sem, simprocAttr, hct, crcByte]))
 ·obtain rfl : k = t.length := by omega
  rw [List.take_of_length_le (Nat.le_refl _)]
  simp (disch := omega) only [go_sem, simprocAttr, hnot]
  exact hR.le (by simp (disch := omega) only [go_sem, simprocAttr]) ⟨rfl, rfl, rfl⟩
theorem crcs_bor (c : W) : Eng.Spec Tryz.prog 56 [(122003, .var [.int .u32 c.toNat])] [.vptr 122003 0] (fun h' v ar => h' = [(122003, .var [.int .u32 c.toNat])] ∧ v = .int .u32 c.toNat ∧ ar = [.vptr 122003 0]) := by
 refine Cod.crcs_spec (fun E R hN hR => ?_)
 simp (disch := omega) only [go_sem, simprocAttr]
 exact hR.le (by simp (disch := omega) only [go_sem, simprocAttr]) ⟨rfl, rfl, rfl⟩
theorem crc32_ok (t : Bs) (ht : t.length ≤ 1000000000) : SpecR Tryz.prog 28 [.str t] (.int .u32 (crcT t).toNat) := by
 refine Cod.crc32_spec (fun E R hN hR => ?_)
 have hw := crcw_ok 0#32 t ht
 rw [show ~~~ (0#32 : W) = ones by decide, show ~~~ (crcF ones t) = crcT t from rfl] at hw
 have hs := crcs_bor (crcT t)
 simp (disch := omega) only [go_sem, simprocAttr]
 refine call_win [(122003, .var [.int .u32 (0#32).toNat])] hw (by simp (disch := omega) only [go_sem, simprocAttr]) nofun ?_
 rintro h' v ar ⟨rfl, rfl, rfl⟩
 refine ⟨by simp (disch := omega) only [go_sem, simprocAttr], rfl, ?_⟩
 simp (disch := omega) only [go_sem, simprocAttr]
 refine call_win [(122003, .var [.int .u32 (crcT t).toNat])] hs (by simp (disch := omega) only [go_sem, simprocAttr]) nofun ?_
 rintro h' v ar ⟨rfl, rfl, rfl⟩
 refine ⟨by simp (disch := omega) only [go_sem, simprocAttr], rfl, ?_⟩
 simp (disch := omega) only [go_sem, simprocAttr]
 exact hR.ro ⟨rfl, rfl⟩
theorem rcrc_ok (t : Bs) (ht : t.length ≤ 1000000000) : SpecR Tryz.prog 33 [.str t] (.int .u32 (crcT t).toNat) := by
 refine Cod.rcrc_spec (fun E R hN hR => ?_)
 simp (disch := omega) only [go_sem, simprocAttr]
 refine vcW_loop hN (fun k : Nat => ⟨[(0, .str t), (3, .int .u32 (crcF ones (t.take k)).toNat), (4, .int .i64 k)], []⟩) (fun k => k ≤ t.length) (fun k => t.length - k) 0 (.le (by simp (disch := omega) only [go_sem, simprocAttr]; simp [crcF]; rfl)) (by omega) ?_
 rintro k R1 hk hR1
 by_cases hlt : k < t.length
 ·have hct := crcF_take ones t hlt
  generalize crcF ones (t.take k) = x at *
  have hby := crc_byte x (t.getD k 0)
  have hbl := (t.getD k 0).toNat_lt
  simp (disch := omega) only [go_sem, simprocAttr]
  refine vcW_loop hN (fun i : Nat => ⟨[(0, .str t), (3, .int .u32 (refIt x (BitVec.ofNat 32 (t.getD k 0).toNat) i).toNat), (4, .int .i64 k), (5, .int .i64 i)], []⟩) (fun i => i ≤ 8) (fun i => 8 - i) 0 (.le (by simp (disch := omega) only [go_sem, simprocAttr, refIt])) (by omega) ?_
  rintro i R2 hi hR2
  by_cases hlt8 : i < 8
  ·have hst : refIt x (BitVec.ofNat 32 (t.getD k 0).toNat) (i + 1) = if (refIt x (BitVec.ofNat 32 (t.getD k 0).toNat) i ^^^ ((BitVec.ofNat 32 (t.getD k 0).toNat) >>> i)) &&& 1#32 = 1#32 then (refIt x (BitVec.ofNat 32 (t.getD k 0).toNat) i >>> 1) ^^^ poly else refIt x (BitVec.ofNat 32 (t.getD k 0).toNat) i >>> 1 := rfl
   generalize refIt x (BitVec.ofNat 32 (t.getD k 0).toNat) i = y at *
   have e0 : ((t.getD k 0).toNat : Int).fdiv (2 ^ min i 8) = ((BitVec.ofNat 32 (t.getD k 0).toNat) >>> i).toNat := by
    rw [Nat.min_eq_left (by omega), u8w]; exact wshr _ i
   have e1 := wxor y ((BitVec.ofNat 32 (t.getD k 0).toNat) >>> i)
   have e2 : bits .and .u32 (y ^^^ ((BitVec.ofNat 32 (t.getD k 0).toNat) >>> i)).toNat 1 = ((y ^^^ ((BitVec.ofNat 32 (t.getD k 0).toNat) >>> i)) &&& 1#32).toNat := wand _ 1#32
   have e3 : (y.toNat : Int).fdiv (2 ^ min 1 32) = (y >>> 1).toNat := wshr y 1
   have e4 : bits .xor .u32 (y >>> 1).toNat 3988292384 = ((y >>> 1) ^^^ poly).toNat := wxor _ poly
   have hw32 := wrapW ((BitVec.ofNat 32 (t.getD k 0).toNat) >>> i)
   generalize hz : (y ^^^ ((BitVec.ofNat 32 (t.getD k 0).toNat) >>> i)) &&& 1#32 = z at *
   by_cases h1 : z = 1#32
   ·rw [if_pos h1] at hst
    have h1' : ((z.toNat : Nat) : Int) = 1 := by rw [h1]; rfl
    simp (disch := omega) only [go_sem, simprocAttr, e0, hw32, e1, e2, e3, e4, h1']
    exact hR2 (i + 1) _ (by omega) (by omega) (.le (by simp (disch := omega) only [go_sem, simprocAttr, hst]))
   ·rw [if_neg h1] at hst
    have h1' : ¬ ((z.toNat : Nat) : Int) = 1 := fun h => h1 (BitVec.eq_of_toNat_eq (show z.toNat = 1 by omega))
    simp (disch := omega) only [go_sem, simprocAttr, e0, hw32, e1, e2, e3, e4, h1']
    exact hR2 (i + 1) _ (by omega) (by omega) (.le (by simp (disch := omega) only [go_sem, simprocAttr, hst]))
  ·obtain rfl : i = 8 := by omega
   simp (disch := omega) only [go_sem, simprocAttr]
   exact hR1 (k + 1) _ (by omega) (by omega) (.le (by simp (disch := omega) only [go_sem, simprocAttr, hct, hby]))
 ·obtain rfl : k = t.length := by omega
  rw [List.take_of_length_le (Nat.le_refl _)]
  have hn := wnot' (crcF ones t)
  simp (disch := omega) only [go_sem, simprocAttr, hn]
  exact hR.ro ⟨rfl, by rw [show ~~~ (crcF ones t) = crcT t from rfl]⟩
end Go.Proofs.YtjoefngnjoofeaaGreatDoor.Pk
namespace Go.Proofs.YtjoefngnjoofeaaGreatDoor.Pk
open Eng Sh
set_option maxRecDepth 10000
def adlF (p : Nat × Nat) (c : UInt8) : Nat × Nat := ((p.1 + c.toNat) % 65521, (p.2 + (p.1 + c.toNat) % 65521) % 65521)
def adlS (t : Bs) : Nat × Nat := t.foldl adlF (1, 0)
def adlV (t : Bs) : Nat := 65536 * (adlS t).2 + (adlS t).1
theorem adlS_take (t : Bs) {k : Nat} (h : k < t.length) : adlS (t.take (k + 1)) = adlF (adlS (t.take k)) (t.getD k 0) := by
 rw [take_succU t h]; simp [adlS]
theorem adlF_lt (p : Nat × Nat) (c : UInt8) : (adlF p c).1 < 65521 ∧ (adlF p c).2 < 65521 := ⟨Nat.mod_lt _ (by decide), Nat.mod_lt _ (by decide)⟩
theorem adlS_lt (t : Bs) : (adlS t).1 < 65521 ∧ (adlS t).2 < 65521 := by
 have : ∀ k, k ≤ t.length → (adlS (t.take k)).1 < 65521 ∧ (adlS (t.take k)).2 < 65521 := by
  intro k
  cases k with
  | zero => intro _; rw [List.take_zero]; decide
  | succ k => intro h; rw [adlS_take t h]; exact adlF_lt _ _
 have h := this t.length (Nat.le_refl _)
 rwa [List.take_of_length_le (Nat.le_refl _)] at h
theorem adlV_lt (t : Bs) : adlV t < 4294967296 := by
 have := adlS_lt t
 unfold adlV; omega
def less1 (a : Nat) : Nat := (a + 65520) % 65521
theorem adlw_ok (t : Bs) (ht : t.length ≤ 1000000000) : Eng.Spec Tryz.prog 79 [(125003, .var [.int .u32 0, .int .u32 0])] [.vptr 125003 0, .str t]
    (fun h' v ar => h' = [(125003, .var [.int .u32 (less1 (adlS t).1 : Nat), .int .u32 ((adlS t).2 : Nat)])] ∧ v = .tup [] ∧ ar = [.vptr 125003 0, .str t]) := by
 refine Cod.adlw_spec (fun E R hN hR => ?_)
 simp (disch := omega) only [go_sem, simprocAttr]
 refine vcW_loop hN (fun k : Nat => ⟨[(0, .vptr 125003 0), (1, .str t), (6, .int .i64 t.length), (7, .int .i64 k), (2000000, .vptr 125003 0), (2000001, .str t)], [(125003, .var [.int .u32 (less1 (adlS (t.take k)).1 : Nat), .int .u32 ((adlS (t.take k)).2 : Nat)])]⟩) (fun k => k ≤ t.length) (fun k => t.length - k) 0 (.le (by simp (disch := omega) only [go_sem, simprocAttr]; simp [adlS, less1])) (by omega) ?_
 rintro k R1 hk hR1
 by_cases hlt : k < t.length
 ·have hct := adlS_take t hlt
  have hxl := adlS_lt (t.take k)
  generalize adlS (t.take k) = x at *
  have hbl := (t.getD k 0).toNat_lt
  obtain ⟨xa, xb⟩ := x
  simp only at hxl
  have hc1 : (adlS (t.take (k + 1))).1 = (xa + (t.getD k 0).toNat) % 65521 := by rw [hct]; rfl
  have hc2 : (adlS (t.take (k + 1))).2 = (xb + (xa + (t.getD k 0).toNat) % 65521) % 65521 := by rw [hct]; rfl
  generalize hb : (t.getD k 0).toNat = b at *
  have l1 : less1 xa < 65521 := Nat.mod_lt _ (by decide)
  have e2 : (((less1 xa : Nat) : Int) + (b : Int)).tmod 65521 = ((less1 ((xa + b) % 65521) : Nat) : Int) := by
   rw [tmod_pos (by omega)]
   unfold less1
   omega
  have e3 : (((xb : Nat) : Int) + ((less1 ((xa + b) % 65521) : Nat) : Int) + 1).tmod 65521 = (((xb + (xa + b) % 65521) % 65521 : Nat) : Int) := by
   rw [tmod_pos (by omega)]
   unfold less1
   omega
  have l2 : less1 ((xa + b) % 65521) < 65521 := Nat.mod_lt _ (by decide)
  simp (disch := omega) only [go_sem, simprocAttr, hb, e2, e3]
  exact hR1 (k + 1) _ (by omega) (by omega) (.le (by simp (disch := omega) only [go_sem, simprocAttr, hc1, hc2]))
 ·obtain rfl : k = t.length := by omega
  rw [List.take_of_length_le (Nat.le_refl _)]
  simp (disch := omega) only [go_sem, simprocAttr]
  exact hR.le (by simp (disch := omega) only [go_sem, simprocAttr]) ⟨rfl, rfl, rfl⟩
theorem or_16 {a b : Nat} (ha : a < 65536) (hb : b < 65536) : bits .or .u32 (IntKind.u32.wrap ((b : Int) * 2 ^ min 16 32)) (a : Int) = ((65536 * b + a : Nat) : Int) := by
 have h1 : ((b : Int) * 2 ^ min 16 32) = ((b * 65536 : Nat) : Int) := by
  rw [show ((2 : Int) ^ min 16 32) = 65536 by decide]; omega
 rw [h1, wrap_u32 (by omega)]
 show IntKind.u32.wrap ((BitVec.ofInt 32 ((b * 65536 : Nat) : Int) ||| BitVec.ofInt 32 (a : Int)).toNat : Int) = _
 rw [BitVec.ofInt_natCast, BitVec.ofInt_natCast, BitVec.toNat_or, BitVec.toNat_ofNat, BitVec.toNat_ofNat, Nat.mod_eq_of_lt (by omega), Nat.mod_eq_of_lt (by omega)]
 have h2 : b * 65536 ||| a = 65536 * b + a := by
  have h3 := Nat.shiftLeft_add_eq_or_of_lt (b := a) (i := 16) (by omega) b
  rw [Nat.shiftLeft_eq, show (2 : Nat) ^ 16 = 65536 by decide] at h3
  omega
 rw [h2]
 exact wrap_u32 (by omega)
theorem adls_ok (t : Bs) : Eng.Spec Tryz.prog 80 [(125003, .var [.int .u32 (less1 (adlS t).1 : Nat), .int .u32 ((adlS t).2 : Nat)])] [.vptr 125003 0]
    (fun h' v ar => h' = [(125003, .var [.int .u32 (less1 (adlS t).1 : Nat), .int .u32 ((adlS t).2 : Nat)])] ∧ v = .int .u32 (adlV t : Nat) ∧ ar = [.vptr 125003 0]) := by
 refine Cod.adls_spec (fun E R hN hR => ?_)
 have hl := adlS_lt t
 unfold adlV at hR
 generalize adlS t = x at *
 obtain ⟨xa, xb⟩ := x
 simp only at hl hR ⊢
 have l1 : less1 xa < 65521 := Nat.mod_lt _ (by decide)
 have e1 : (((less1 xa : Nat) : Int) + 1).tmod 65521 = ((xa : Nat) : Int) := by
  rw [tmod_pos (by omega)]
  unfold less1
  omega
 have e2 := or_16 (a := xa) (b := xb) (by omega) (by omega)
 simp (disch := omega) only [go_sem, simprocAttr, e1, e2]
 exact hR.le (by simp (disch := omega) only [go_sem, simprocAttr]) ⟨rfl, rfl, rfl⟩
theorem adler_ok (t : Bs) (ht : t.length ≤ 1000000000) : SpecR Tryz.prog 54 [.str t] (.int .u32 (adlV t : Nat)) := by
 refine Cod.adler_spec (fun E R hN hR => ?_)
 have hw := adlw_ok t ht
 have hs := adls_ok t
 simp (disch := omega) only [go_sem, simprocAttr]
 refine call_win [(125003, .var [.int .u32 0, .int .u32 0])] hw (by simp (disch := omega) only [go_sem, simprocAttr]) nofun ?_
 rintro h' v ar ⟨rfl, rfl, rfl⟩
 refine ⟨by simp (disch := omega) only [go_sem, simprocAttr], rfl, ?_⟩
 simp (disch := omega) only [go_sem, simprocAttr]
 refine call_win [(125003, .var [.int .u32 (less1 (adlS t).1 : Nat), .int .u32 ((adlS t).2 : Nat)])] hs (by simp (disch := omega) only [go_sem, simprocAttr]) nofun ?_
 rintro h' v ar ⟨rfl, rfl, rfl⟩
 refine ⟨by simp (disch := omega) only [go_sem, simprocAttr], rfl, ?_⟩
 simp (disch := omega) only [go_sem, simprocAttr]
 exact hR.ro ⟨rfl, rfl⟩
theorem radler_ok (t : Bs) (ht : t.length ≤ 1000000000) : SpecR Tryz.prog 60 [.str t] (.int .u32 (adlV t : Nat)) := by
 refine Cod.radler_spec (fun E R hN hR => ?_)
 simp (disch := omega) only [go_sem, simprocAttr]
 refine vcW_loop hN (fun k : Nat => ⟨[(0, .str t), (3, .int .i64 ((adlS (t.take k)).1 : Nat)), (4, .int .i64 ((adlS (t.take k)).2 : Nat)), (5, .int .i64 k)], []⟩) (fun k => k ≤ t.length) (fun k => t.length - k) 0 (.le (by simp (disch := omega) only [go_sem, simprocAttr]; simp [adlS])) (by omega) ?_
 rintro k R1 hk hR1
 by_cases hlt : k < t.length
 ·have hct := adlS_take t hlt
  have hxl := adlS_lt (t.take k)
  generalize adlS (t.take k) = x at *
  have hbl := (t.getD k 0).toNat_lt
  obtain ⟨xa, xb⟩ := x
  simp only at hxl
  have hc1 : (adlS (t.take (k + 1))).1 = (xa + (t.getD k 0).toNat) % 65521 := by rw [hct]; rfl
  have hc2 : (adlS (t.take (k + 1))).2 = (xb + (xa + (t.getD k 0).toNat) % 65521) % 65521 := by rw [hct]; rfl
  generalize hb : (t.getD k 0).toNat = b at *
  have e1 : ((xa : Int) + (b : Int)).tmod 65521 = (((xa + b) % 65521 : Nat) : Int) := by rw [tmod_pos (by omega)]; omega
  have e2 : ((xb : Int) + (((xa + b) % 65521 : Nat) : Int)).tmod 65521 = (((xb + (xa + b) % 65521) % 65521 : Nat) : Int) := by rw [tmod_pos (by omega)]; omega
  simp (disch := omega) only [go_sem, simprocAttr, hb, e1, e2]
  exact hR1 (k + 1) _ (by omega) (by omega) (.le (by simp (disch := omega) only [go_sem, simprocAttr, hc1, hc2]))
 ·obtain rfl : k = t.length := by omega
  rw [List.take_of_length_le (Nat.le_refl _)]
  have hl := adlS_lt t
  unfold adlV at hR
  generalize adlS t = x at *
  obtain ⟨xa, xb⟩ := x
  simp only at hl hR ⊢
  have e1 : (65536 : Int) * (xb : Int) + (xa : Int) = ((65536 * xb + xa : Nat) : Int) := by omega
  simp (disch := omega) only [go_sem, simprocAttr, e1]
  exact hR.ro ⟨rfl, rfl⟩
end Go.Proofs.YtjoefngnjoofeaaGreatDoor.Pk
namespace Go.Proofs.YtjoefngnjoofeaaGreatDoor.Pk
open Eng Sh
set_option maxRecDepth 10000
def bigN (t : Bs) : Nat := t.foldl (fun x c => 256 * x + c.toNat) 0
theorem bigN_take (t : Bs) {k : Nat} (h : k < t.length) : bigN (t.take (k + 1)) = 256 * bigN (t.take k) + (t.getD k 0).toNat := by
 rw [take_succU t h]; simp [bigN]
theorem bigN_lt (t : Bs) : ∀ k, k ≤ t.length → bigN (t.take k) < 256 ^ k
 | 0, _ => by rw [List.take_zero]; decide
 | k + 1, h => by
  have ih := bigN_lt t k (by omega)
  have hb := (t.getD k 0).toNat_lt
  rw [bigN_take t h, Nat.pow_succ]
  omega
theorem bigN_7 (t : Bs) {k : Nat} (h : k ≤ t.length) (h7 : t.length ≤ 6) : bigN (t.take k) < 281474976710656 := by
 have h1 := bigN_lt t k h
 have h2 : 256 ^ k ≤ 256 ^ 6 := Nat.pow_le_pow_right (by decide) (by omega)
 exact Nat.lt_of_lt_of_le h1 h2
theorem or_8 {x b : Nat} (hx : x < 281474976710656) (hb : b < 256) : bits .or .u64 (IntKind.u64.wrap ((x : Int) * 2 ^ min 8 64)) (b : Int) = ((256 * x + b : Nat) : Int) := by
 have h1 : ((x : Int) * 2 ^ min 8 64) = ((x * 256 : Nat) : Int) := by
  rw [show ((2 : Int) ^ min 8 64) = 256 by decide]; omega
 rw [h1, wrap_u64 (by omega)]
 show IntKind.u64.wrap ((BitVec.ofInt 64 ((x * 256 : Nat) : Int) ||| BitVec.ofInt 64 (b : Int)).toNat : Int) = _
 rw [BitVec.ofInt_natCast, BitVec.ofInt_natCast, BitVec.toNat_or, BitVec.toNat_ofNat, BitVec.toNat_ofNat, Nat.mod_eq_of_lt (by omega), Nat.mod_eq_of_lt (by omega)]
 have h2 : x * 256 ||| b = 256 * x + b := by
  have h3 := Nat.shiftLeft_add_eq_or_of_lt (b := b) (i := 8) (by omega) x
  rw [Nat.shiftLeft_eq, show (2 : Nat) ^ 8 = 256 by decide] at h3
  omega
 rw [h2]
 exact wrap_u64 (by omega)
theorem or_8i {x b : Nat} (hx : x < 281474976710656) (hb : b < 256) : bits .or .i64 (IntKind.i64.wrap ((x : Int) * 2 ^ min 8 64)) (b : Int) = ((256 * x + b : Nat) : Int) := by
 have h1 : ((x : Int) * 2 ^ min 8 64) = ((x * 256 : Nat) : Int) := by
  rw [show ((2 : Int) ^ min 8 64) = 256 by decide]; omega
 rw [h1, wrap_id (by omega)]
 show IntKind.i64.wrap ((BitVec.ofInt 64 ((x * 256 : Nat) : Int) ||| BitVec.ofInt 64 (b : Int)).toNat : Int) = _
 rw [BitVec.ofInt_natCast, BitVec.ofInt_natCast, BitVec.toNat_or, BitVec.toNat_ofNat, BitVec.toNat_ofNat, Nat.mod_eq_of_lt (by omega), Nat.mod_eq_of_lt (by omega)]
 have h2 : x * 256 ||| b = 256 * x + b := by
  have h3 := Nat.shiftLeft_add_eq_or_of_lt (b := b) (i := 8) (by omega) x
  rw [Nat.shiftLeft_eq, show (2 : Nat) ^ 8 = 256 by decide] at h3
  omega
 rw [h2]
 exact wrap_id (by omega)
theorem frombig_ok (t : Bs) (ht : t.length ≤ 6) : SpecR Tryz.prog 19 [.str t] (.int .u64 (bigN t : Nat)) := by
 refine Cod.frombig_spec (fun E R hN hR => ?_)
 simp (disch := omega) only [go_sem, simprocAttr]
 refine vcW_loop hN (fun k : Nat => ⟨[(0, .str t), (3, .int .u64 (bigN (t.take k) : Nat)), (6, .int .i64 t.length), (7, .int .i64 k)], []⟩) (fun k => k ≤ t.length) (fun k => t.length - k) 0 (.le (by simp (disch := omega) only [go_sem, simprocAttr]; simp [bigN])) (by omega) ?_
 rintro k R1 hk hR1
 by_cases hlt : k < t.length
 ·have hct := bigN_take t hlt
  have hxl := bigN_7 t hk ht
  have hbl := (t.getD k 0).toNat_lt
  have ho := or_8 hxl hbl
  generalize bigN (t.take k) = x at *
  simp (disch := omega) only [go_sem, simprocAttr, ho]
  exact hR1 (k + 1) _ (by omega) (by omega) (.le (by simp (disch := omega) only [go_sem, simprocAttr, hct]))
 ·obtain rfl : k = t.length := by omega
  rw [List.take_of_length_le (Nat.le_refl _)]
  simp (disch := omega) only [go_sem, simprocAttr]
  exact hR.ro ⟨rfl, rfl⟩
theorem rnumber_ok (t : Bs) (ht : t.length ≤ 6) : SpecR Tryz.prog 21 [.str t] (.int .u64 (bigN t : Nat)) := by
 refine Cod.rnumber_spec (fun E R hN hR => ?_)
 simp (disch := omega) only [go_sem, simprocAttr]
 refine vcW_loop hN (fun k : Nat => ⟨[(0, .str t), (3, .int .u64 (bigN (t.take k) : Nat)), (4, .int .i64 k)], []⟩) (fun k => k ≤ t.length) (fun k => t.length - k) 0 (.le (by simp (disch := omega) only [go_sem, simprocAttr]; simp [bigN])) (by omega) ?_
 rintro k R1 hk hR1
 by_cases hlt : k < t.length
 ·have hct := bigN_take t hlt
  have hxl := bigN_7 t hk ht
  have hbl := (t.getD k 0).toNat_lt
  generalize bigN (t.take k) = x at *
  simp (disch := omega) only [go_sem, simprocAttr]
  exact hR1 (k + 1) _ (by omega) (by omega) (.le (by simp (disch := omega) only [go_sem, simprocAttr, hct]))
 ·obtain rfl : k = t.length := by omega
  rw [List.take_of_length_le (Nat.le_refl _)]
  simp (disch := omega) only [go_sem, simprocAttr]
  exact hR.ro ⟨rfl, rfl⟩
def litB (x n : Nat) : Bs := (List.range n).map fun i => UInt8.ofNat (x / 256 ^ i % 256)
theorem litB_len (x n : Nat) : (litB x n).length = n := by simp [litB]
theorem litB_succ (x n : Nat) : litB x (n + 1) = litB x n ++ [UInt8.ofNat (x / 256 ^ n % 256)] := by simp [litB, List.range_succ]
theorem rlittle_ok (x n : Nat) (hx : x < 9223372036854775808) (hn : n ≤ 1000) : SpecR Tryz.prog 90 [.int .u64 x, .int .i64 n] (.str (litB x n)) := by
 refine Cod.rlittle_spec (fun E R hN hR => ?_)
 simp (disch := omega) only [go_sem, simprocAttr]
 refine vcW_loop hN (fun k : Nat => ⟨[(0, .int .u64 (x / 256 ^ k : Nat)), (1, .int .i64 n), (5, .sl 130007 0 k), (6, .int .i64 k)], [(130007, .arr 1 ((litB x k).map ub))]⟩) (fun k => k ≤ n) (fun k => n - k) 0 (.le (by simp (disch := omega) only [go_sem, simprocAttr]; simp [litB])) (by omega) ?_
 rintro k R1 hk hR1
 have hl := litB_len x k
 by_cases hlt : k < n
 ·have hct := litB_succ x k
  have hd : x / 256 ^ k ≤ x := Nat.div_le_self _ _
  have hR1' := fun st' => hR1 (k + 1) st' (by omega) (by omega)
  have hp : x / 256 ^ (k + 1) = x / 256 ^ k / 256 := by rw [Nat.pow_succ, Nat.div_div_eq_div_mul]
  rw [hp] at hR1' 
  generalize x / 256 ^ k = x1 at *
  have e1 : ((x1 : Nat) : Int).tmod 256 = ((x1 % 256 : Nat) : Int) := by rw [tmod_pos (by omega)]; omega
  have e2 : ((x1 : Nat) : Int).tdiv 256 = ((x1 / 256 : Nat) : Int) := by rw [tdiv_pos (by omega)]; omega
  have e3 : ((x1 % 256 : Nat) : Int) = ((UInt8.ofNat (x1 % 256)).toNat : Int) := by rw [UInt8.toNat_ofNat']; omega
  have hu := (UInt8.ofNat (x1 % 256)).toNat_lt
  rw [e3] at e1
  generalize UInt8.ofNat (x1 % 256) = c at *
  simp (disch := omega) only [go_sem, simprocAttr, e1, e2]
  exact hR1' _ (.le (by rw [hct]; simp (disch := omega) only [go_sem, simprocAttr]; simp [ub]))
 ·obtain rfl : k = n := by omega
  simp (disch := omega) only [go_sem, simprocAttr]
  exact hR.wk (h' := []) (r' := .str (litB x k)) (ar' := [.undef, .undef]) rfl (.le (by simp (disch := omega) only [go_sem, simprocAttr])) ⟨rfl, rfl⟩
theorem rev_get (t : Bs) {k : Nat} (h : k < t.length) : t.reverse.take (k + 1) = t.reverse.take k ++ [t.getD (t.length - 1 - k) 0] := by
 rw [take_succU t.reverse (by simpa using h), List.getD_eq_getElem?_getD, List.getElem?_reverse h, List.getD_eq_getElem?_getD]
theorem r1turn_ok (t : Bs) (ht : t.length ≤ 1000000) : SpecR Tryz.prog 89 [.str t] (.str t.reverse) := by
 refine Cod.r1turn_spec (fun E R hN hR => ?_)
 simp (disch := omega) only [go_sem, simprocAttr]
 refine vcW_loop hN (fun k : Nat => ⟨[(0, .str t), (3, .sl 131005 0 k), (4, .int .i64 ((t.length : Int) - 1 - (k : Int)))], [(131005, .arr 1 ((t.reverse.take k).map ub))]⟩) (fun k => k ≤ t.length) (fun k => t.length - k) 0 (.le (by simp (disch := omega) only [go_sem, simprocAttr])) (by omega) ?_
 rintro k R1 hk hR1
 have hl : (t.reverse.take k).length = k := by rw [List.length_take, List.length_reverse]; omega
 by_cases hlt : k < t.length
 ·have hct := rev_get t hlt
  have ei : (t.length : Int) - 1 - (k : Int) = ((t.length - 1 - k : Nat) : Int) := by omega
  have ei2 : (t.length : Int) - 1 - (k : Int) - 1 = (t.length : Int) - 1 - ((k + 1 : Nat) : Int) := by omega
  have hu := (t.getD (t.length - 1 - k) 0).toNat_lt
  rw [ei]
  simp (disch := omega) only [go_sem, simprocAttr]
  refine hR1 (k + 1) _ (by omega) (by omega) (.le ?_)
  rw [hct, show ((t.length : Int) - 1 - ((k + 1 : Nat) : Int)) = ((t.length - 1 - k : Nat) : Int) - 1 by omega]
  simp (disch := omega) only [go_sem, simprocAttr]
  simp [ub]
 ·obtain rfl : k = t.length := by omega
  rw [List.take_of_length_le (by rw [List.length_reverse]; omega)] at hl ⊢
  have ei : (t.length : Int) - 1 - (t.length : Int) = -1 := by omega
  rw [ei]
  simp (disch := omega) only [go_sem, simprocAttr]
  exact hR.wk (h' := []) (r' := .str t.reverse) (ar' := [.undef]) rfl (.le (by simp (disch := omega) only [go_sem, simprocAttr])) ⟨rfl, rfl⟩
theorem rbig_ok (x n : Nat) (hx : x < 9223372036854775808) (hn : n ≤ 1000) : SpecR Tryz.prog 59 [.int .u64 x, .int .i64 n] (.str (litB x n).reverse) := by
 refine Cod.rbig_spec (fun E R hN hR => ?_)
 have h1 := rlittle_ok x n hx hn
 have h2 := r1turn_ok (litB x n) (by rw [litB_len]; omega)
 simp (disch := omega) only [go_sem, simprocAttr]
 refine call_ro h1 rfl rfl ?_
 simp (disch := omega) only [go_sem, simprocAttr]
 refine call_ro h2 rfl rfl ?_
 simp (disch := omega) only [go_sem, simprocAttr]
 exact hR.ro ⟨rfl, rfl⟩
theorem big_four (u : Bs) (hu : u.length = 4) (v : Nat) (hv : v < 4294967296) : bigN u = v ↔ u = (litB v 4).reverse := by
 obtain ⟨a, b, c, d, rfl⟩ : ∃ a b c d, u = [a, b, c, d] := by
  match u, hu with
  | [a, b, c, d], _ => exact ⟨a, b, c, d, rfl⟩
 have ha := a.toNat_lt
 have hb := b.toNat_lt
 have hc := c.toNat_lt
 have hd := d.toNat_lt
 have e1 : bigN [a, b, c, d] = 256 * (256 * (256 * a.toNat + b.toNat) + c.toNat) + d.toNat := by simp [bigN]
 have e2 : (litB v 4).reverse = [UInt8.ofNat (v / 16777216 % 256), UInt8.ofNat (v / 65536 % 256), UInt8.ofNat (v / 256 % 256), UInt8.ofNat (v % 256)] := by simp [litB, List.range_succ]
 rw [e1, e2]
 constructor
 ·intro h
  have f : ∀ (x : UInt8) (n : Nat), x.toNat = n → x = UInt8.ofNat n := fun x n h => by rw [← h, UInt8.ofNat_toNat]
  rw [f a _ (show a.toNat = v / 16777216 % 256 by omega), f b _ (show b.toNat = v / 65536 % 256 by omega), f c _ (show c.toNat = v / 256 % 256 by omega), f d _ (show d.toNat = v % 256 by omega)]
 ·intro h
  simp only [List.cons.injEq, and_true] at h
  obtain ⟨rfl, rfl, rfl, rfl⟩ := h
  simp only [UInt8.toNat_ofNat']
  omega
def headB (a b : Nat) : Bool := decide (a % 16 = 8) && (decide (a / 16 ≤ 7) && (decide ((256 * a + b) % 31 = 0) && decide (b / 32 % 2 = 0)))
theorem and_32 {b : Nat} (h : b < 256) : bits .and .u8 (b : Int) 32 = ((b / 32 % 2 * 32 : Nat) : Int) := by
 have : ∀ b : Nat, b < 256 → bits .and .u8 (b : Int) 32 = ((b / 32 % 2 * 32 : Nat) : Int) := by decide +kernel
 exact this b h
theorem zhead_ok (a b : UInt8) : SpecR Tryz.prog 52 [.int .u8 a.toNat, .int .u8 b.toNat] (.bool (headB a.toNat b.toNat)) := by
 refine Cod.zhead_spec (fun E R hN hR => ?_)
 have ha := a.toNat_lt
 have hb := b.toNat_lt
 have e1 := u8_lo a
 have e2 := u8_hi a
 have e3 := or_8i (x := a.toNat) (b := b.toNat) (by omega) hb
 have e4 : ((256 * a.toNat + b.toNat : Nat) : Int).tmod 31 = (((256 * a.toNat + b.toNat) % 31 : Nat) : Int) := by rw [tmod_pos (by omega)]; omega
 have e5 := and_32 hb
 unfold headB at hR
 generalize a.toNat = x at *
 generalize b.toNat = y at *
 by_cases h1 : x % 16 = 8
 ·by_cases h2 : x / 16 ≤ 7
  ·by_cases h3 : (256 * x + y) % 31 = 0
   ·by_cases h4 : y / 32 % 2 = 0
    ·rw [decide_eq_true h1, decide_eq_true h2, decide_eq_true h3, decide_eq_true h4] at hR
     rw [h1] at e1
     rw [h3] at e4
     rw [h4] at e5
     simp (disch := omega) only [go_sem, simprocAttr, e1, e2, e3, e4, e5]
     (repeat (first | refine gskip_of ?_ | refine gcskip_of ?_ | refine gopen_of ?_) <;> simp (disch := omega) only [go_sem, simprocAttr, e1, e2, e3, e4, e5])
     exact hR.ro ⟨rfl, rfl⟩
    ·rw [decide_eq_true h1, decide_eq_true h2, decide_eq_true h3, decide_eq_false h4] at hR
     rw [h1] at e1
     rw [h3] at e4
     rw [show y / 32 % 2 = 1 by omega] at e5
     simp (disch := omega) only [go_sem, simprocAttr, e1, e2, e3, e4, e5]
     (repeat (first | refine gskip_of ?_ | refine gcskip_of ?_ | refine gopen_of ?_) <;> simp (disch := omega) only [go_sem, simprocAttr, e1, e2, e3, e4, e5])
     exact hR.ro ⟨rfl, rfl⟩
   ·rw [decide_eq_true h1, decide_eq_true h2, decide_eq_false h3] at hR
    rw [h1] at e1
    have hi : ¬ (((256 * x + y) % 31 : Nat) : Int) = 0 := by omega
    simp (disch := omega) only [go_sem, simprocAttr, e1, e2, e3, e4, hi]
    (repeat (first | refine gskip_of ?_ | refine gcskip_of ?_ | refine gopen_of ?_) <;> simp (disch := omega) only [go_sem, simprocAttr, e1, e2, e3, e4, hi])
    exact hR.ro ⟨rfl, rfl⟩
  ·rw [decide_eq_true h1, decide_eq_false h2] at hR
   rw [h1] at e1
   have hi : ¬ ((x / 16 : Nat) : Int) ≤ 7 := by omega
   simp (disch := omega) only [go_sem, simprocAttr, e1, e2, hi]
   (repeat (first | refine gskip_of ?_ | refine gcskip_of ?_ | refine gopen_of ?_) <;> simp (disch := omega) only [go_sem, simprocAttr, e1, e2, hi])
   exact hR.ro ⟨rfl, rfl⟩
 ·rw [decide_eq_false h1] at hR
  have hi : ¬ ((x % 16 : Nat) : Int) = 8 := by omega
  simp (disch := omega) only [go_sem, simprocAttr, e1, hi]
  (repeat (first | refine gskip_of ?_ | refine gcskip_of ?_ | refine gopen_of ?_) <;> simp (disch := omega) only [go_sem, simprocAttr, e1, hi])
  exact hR.ro ⟨rfl, rfl⟩
theorem r6head_ok (x y : Nat) (hx : x < 256) (hy : y < 256) : SpecR Tryz.prog 57 [.int .i64 x, .int .i64 y] (.bool (headB x y)) := by
 refine Cod.r6head_spec (fun E R hN hR => ?_)
 have e1 : (x : Int).tmod 16 = ((x % 16 : Nat) : Int) := by rw [tmod_pos (by omega)]; omega
 have e2 : (x : Int).tdiv 16 = ((x / 16 : Nat) : Int) := by rw [tdiv_pos (by omega)]; omega
 have e4 : (256 * (x : Int) + (y : Int)).tmod 31 = (((256 * x + y) % 31 : Nat) : Int) := by rw [tmod_pos (by omega)]; omega
 have e5 : (y : Int).tdiv 32 = ((y / 32 : Nat) : Int) := by rw [tdiv_pos (by omega)]; omega
 have e6 : ((y / 32 : Nat) : Int).tmod 2 = ((y / 32 % 2 : Nat) : Int) := by rw [tmod_pos (by omega)]; omega
 unfold headB at hR
 by_cases h1 : x % 16 = 8
 ·by_cases h2 : x / 16 ≤ 7
  ·by_cases h3 : (256 * x + y) % 31 = 0
   ·by_cases h4 : y / 32 % 2 = 0
    ·rw [decide_eq_true h1, decide_eq_true h2, decide_eq_true h3, decide_eq_true h4] at hR
     rw [h1] at e1
     rw [h3] at e4
     rw [h4] at e6
     simp (disch := omega) only [go_sem, simprocAttr, e1, e2, e4, e5, e6]
     (repeat (first | refine gskip_of ?_ | refine gcskip_of ?_ | refine gopen_of ?_) <;> simp (disch := omega) only [go_sem, simprocAttr, e1, e2, e4, e5, e6])
     exact hR.ro ⟨rfl, rfl⟩
    ·rw [decide_eq_true h1, decide_eq_true h2, decide_eq_true h3, decide_eq_false h4] at hR
     rw [h1] at e1
     rw [h3] at e4
     rw [show y / 32 % 2 = 1 by omega] at e6
     simp (disch := omega) only [go_sem, simprocAttr, e1, e2, e4, e5, e6]
     (repeat (first | refine gskip_of ?_ | refine gcskip_of ?_ | refine gopen_of ?_) <;> simp (disch := omega) only [go_sem, simprocAttr, e1, e2, e4, e5, e6])
     exact hR.ro ⟨rfl, rfl⟩
   ·rw [decide_eq_true h1, decide_eq_true h2, decide_eq_false h3] at hR
    rw [h1] at e1
    have hi : ¬ (((256 * x + y) % 31 : Nat) : Int) = 0 := by omega
    simp (disch := omega) only [go_sem, simprocAttr, e1, e2, e4, hi]
    (repeat (first | refine gskip_of ?_ | refine gcskip_of ?_ | refine gopen_of ?_) <;> simp (disch := omega) only [go_sem, simprocAttr, e1, e2, e4, hi])
    exact hR.ro ⟨rfl, rfl⟩
  ·rw [decide_eq_true h1, decide_eq_false h2] at hR
   rw [h1] at e1
   have hi : ¬ ((x / 16 : Nat) : Int) ≤ 7 := by omega
   simp (disch := omega) only [go_sem, simprocAttr, e1, e2, hi]
   (repeat (first | refine gskip_of ?_ | refine gcskip_of ?_ | refine gopen_of ?_) <;> simp (disch := omega) only [go_sem, simprocAttr, e1, e2, hi])
   exact hR.ro ⟨rfl, rfl⟩
 ·rw [decide_eq_false h1] at hR
  have hi : ¬ ((x % 16 : Nat) : Int) = 8 := by omega
  simp (disch := omega) only [go_sem, simprocAttr, e1, hi]
  (repeat (first | refine gskip_of ?_ | refine gcskip_of ?_ | refine gopen_of ?_) <;> simp (disch := omega) only [go_sem, simprocAttr, e1, hi])
  exact hR.ro ⟨rfl, rfl⟩
end Go.Proofs.YtjoefngnjoofeaaGreatDoor.Pk
namespace Go.Proofs.YtjoefngnjoofeaaGreatDoor.Cod
open Eng Eng.Kz
set_option maxRecDepth 100000
abbrev bnew_2 : AK := .seq (.reg [m 10 0, m 11 1, m 12 1, .v 13 (.bld [.str [], .int .i64 0, .int .u64 0, .int .i64 0, .int .i64 0] [(0, 1, (.t 10)), (1, 1, (.t 11)), (4, 1, (.t 12))]), .eff 14 false 40014 (.box 5 (.t 13)), m 4 14] [4]) .ret
abbrev bnew_1 : AK := .seq (.reg [m 5 1, m 6 0, .v 7 (.len true (.t 6)), .v 8 (.mm false (.t 5) (.t 7)), .v 9 (.mm true (ci 0) (.t 8)), m 1 9] [0,1]) bnew_2
abbrev bnew_0 : AK := .seq (.reg [k 4 (.c (.lit (.pointer none)))] [0,1]) bnew_1
abbrev bnew : AK := bnew_0
theorem bnew_fn : FnOK Tryz.prog 76 40000 2 bnew [.tmp 4] := ⟨_, Tryz.func76, by kernel_rfl⟩
theorem bnew_spec {h : HP} {a0 a1 : AV} {Post : HP → AV → List AV → Prop} (hp : HpN Tryz.prog bnew [.tmp 4] 2 [(0, a0), (1, a1)] h Post) : Eng.Spec Tryz.prog 76 h [a0, a1] Post := spec_fn bnew_fn rfl [(0, a0), (1, a1)] ⟨rfl, rfl, trivial⟩ hp
abbrev fill_5 : AK := .reg [m 51 0, .v 52 (.nilc (.t 51)), .v 53 (.fldA false 3 1 (.t 52)), .v 54 (.ld false 1 (.t 53)), bi 55 .add 54 8, .v 56 (.nilc (.t 51)), .v 57 (.fldA false 3 1 (.t 56)), .effN false 41000 (.st 1 (.t 57) (.t 55))] [0,1,2000000,2000001]
abbrev fill_4 : AK := .seq (.reg [m 44 0, .v 45 (.nilc (.t 44)), .v 46 (.fldA false 1 1 (.t 45)), .v 47 (.ld false 1 (.t 46)), bi 48 .add 47 1, .v 49 (.nilc (.t 44)), .v 50 (.fldA false 1 1 (.t 49)), .effN false 41000 (.st 1 (.t 50) (.t 48))] [0,1,2000000,2000001]) fill_5
abbrev fill_3 : AK := .seq (.reg [u 41022 22 (.mov (.t 0)), u 41023 23 (.nilc (.t 22)), u 41024 24 (.fldA false 2 1 (.t 23)), u 41025 25 (.ld false 1 (.t 24)), u 41026 26 (.mov (.t 0)), u 41027 27 (.nilc (.t 26)), u 41028 28 (.fldA false 0 1 (.t 27)), u 41029 29 (.ld false 1 (.t 28)), u 41030 30 (.mov (.t 0)), u 41031 31 (.nilc (.t 30)), u 41032 32 (.fldA false 1 1 (.t 31)), u 41033 33 (.ld false 1 (.t 32)), u 41034 34 (.sidx (.t 29) (.t 33)), u 41035 35 (.cvi .u64 (.t 34)), u 41036 36 (.mov (.t 0)), u 41037 37 (.nilc (.t 36)), u 41038 38 (.fldA false 3 1 (.t 37)), u 41039 39 (.ld false 1 (.t 38)), u 41040 40 (.bin .shl (.t 35) (.t 39)), b 41 .or 25 40, .v 42 (.nilc (.t 22)), .v 43 (.fldA false 2 1 (.t 42)), .effN false 41000 (.st 1 (.t 43) (.t 41))] [0,1,2000000,2000001]) fill_4
abbrev fill_6 : AK := .seq (.reg [m 4 0, .v 5 (.nilc (.t 4)), .v 6 (.fldA false 3 1 (.t 5)), .v 7 (.ld false 1 (.t 6)), u 41008 8 (.mov (.t 1)), b 9 .lss 7 8, m 10 9, .gval 11 10 true true 41011 (.mov (.t 0)), .gval 12 10 true true 41012 (.nilc (.t 11)), .gval 13 10 true true 41013 (.fldA false 1 1 (.t 12)), .gval 14 10 true true 41014 (.ld false 1 (.t 13)), .gval 15 10 true true 41015 (.mov (.t 0)), .gval 16 10 true true 41016 (.nilc (.t 15)), .gval 17 10 true true 41017 (.fldA false 0 1 (.t 16)), .gval 18 10 true true 41018 (.ld false 1 (.t 17)), .gval 19 10 true true 41019 (.len true (.t 18)), .gval 20 10 true false 41020 (.bin .lss (.t 14) (.t 19)), .v 21 (.pick (.t 10) (.t 20) (.c (.bool false)))] [0,1,21,2000000,2000001]) (.cond (.t 21) .skip (.exit 0))
abbrev fill_1 : AK := .seq fill_6 (.block 1 fill_3)
abbrev fill_L0 : AK := .loop fill_1
abbrev fill : AK := (.block 0 fill_L0)
theorem fill_fn : FnOK Tryz.prog 128 41000 2 fill [] := ⟨_, Tryz.func128, by kernel_rfl⟩
theorem fill_spec {h : HP} {a0 a1 : AV} {Post : HP → AV → List AV → Prop} (hp : HpN Tryz.prog fill [] 2 [(0, a0), (1, a1), (2000000, a0), (2000001, a1)] h Post) : Eng.Spec Tryz.prog 128 h [a0, a1] Post := spec_fn fill_fn rfl [(0, a0), (1, a1), (2000000, a0), (2000001, a1)] ⟨rfl, rfl, rfl, rfl, trivial⟩ hp
abbrev peek_3 : AK := .seq (.reg [u 42015 15 (.mov (.t 0)), u 42016 16 (.nilc (.t 15)), u 42017 17 (.fldA false 2 1 (.t 16)), u 42018 18 (.ld false 1 (.t 17)), u 42019 19 (.mov (.t 1)), u 42020 20 (.bin .shl (.c (.int .u64 1)) (.t 19)), u 42021 21 (.bin .sub (.t 20) (.c (.int .u64 1))), u 42022 22 (.bin .and (.t 18) (.t 21)), u 42023 23 (.cvi .u32 (.t 22)), u 42024 24 (.mov (.t 1)), u 42025 25 (.mov (.t 0)), u 42026 26 (.nilc (.t 25)), u 42027 27 (.fldA false 3 1 (.t 26)), u 42028 28 (.ld false 1 (.t 27)), u 42029 29 (.mm false (.t 24) (.t 28)), u 42004 4 (.mov (.t 23)), m 5 29] [4,5,2000000,2000001]) .ret
abbrev peek_2 : AK := .seq (.reg [m 12 0, m 13 1, .cal (some 14) false 42014 128 [(.t 12), (.t 13)]] [0,1,2000000,2000001]) peek_3
abbrev peek_6 : AK := .seq (.reg [k 4 (.c (.int .u32 0)), k 5 (ci 0)] [4,5,2000000,2000001]) .ret
abbrev peek_4 : AK := .seq (.reg [m 6 1, bi 7 .lss 6 0, m 8 7, .gval 9 8 false false 42009 (.mov (.t 1)), .gval 10 8 false false 42010 (.bin .gtr (.t 9) (ci 32)), .v 11 (.pick (.t 8) (.c (.bool true)) (.t 10))] [0,1,11,2000000,2000001]) (.cond (.t 11) peek_6 .skip)
abbrev peek_1 : AK := .seq peek_4 peek_2
abbrev peek_0 : AK := .seq (.reg [k 4 (.c (.int .u32 0)), k 5 (ci 0)] [0,1,2000000,2000001]) peek_1
abbrev peek : AK := peek_0
theorem peek_fn : FnOK Tryz.prog 119 42000 2 peek [.tmp 4, .tmp 5] := ⟨_, Tryz.func119, by kernel_rfl⟩
theorem peek_spec {h : HP} {a0 a1 : AV} {Post : HP → AV → List AV → Prop} (hp : HpN Tryz.prog peek [.tmp 4, .tmp 5] 2 [(0, a0), (1, a1), (2000000, a0), (2000001, a1)] h Post) : Eng.Spec Tryz.prog 119 h [a0, a1] Post := spec_fn peek_fn rfl [(0, a0), (1, a1), (2000000, a0), (2000001, a1)] ⟨rfl, rfl, rfl, rfl, trivial⟩ hp
abbrev skip_6 : AK := .seq (.reg [k 4 (.c (.bool true))] [4,2000000,2000001]) .ret
abbrev skip_5 : AK := .seq (.reg [m 28 0, .v 29 (.nilc (.t 28)), .v 30 (.fldA false 3 1 (.t 29)), .v 31 (.ld false 1 (.t 30)), m 32 1, b 33 .sub 31 32, .v 34 (.nilc (.t 28)), .v 35 (.fldA false 3 1 (.t 34)), .effN false 43000 (.st 1 (.t 35) (.t 33))] [2000000,2000001]) skip_6
abbrev skip_4 : AK := .seq (.reg [m 20 0, .v 21 (.nilc (.t 20)), .v 22 (.fldA false 2 1 (.t 21)), .v 23 (.ld false 1 (.t 22)), m 24 1, b 25 .shr 23 24, .v 26 (.nilc (.t 20)), .v 27 (.fldA false 2 1 (.t 26)), .effN false 43000 (.st 1 (.t 27) (.t 25))] [0,1,2000000,2000001]) skip_5
abbrev skip_9 : AK := .seq (.reg [k 4 (.c (.bool false))] [4,2000000,2000001]) .ret
abbrev skip_7 : AK := .seq (.reg [m 14 0, .v 15 (.nilc (.t 14)), .v 16 (.fldA false 3 1 (.t 15)), .v 17 (.ld false 1 (.t 16)), m 18 1, b 19 .lss 17 18] [0,1,19,2000000,2000001]) (.cond (.t 19) skip_9 .skip)
abbrev skip_3 : AK := .seq skip_7 skip_4
abbrev skip_2 : AK := .seq (.reg [m 11 0, m 12 1, .cal (some 13) false 43013 128 [(.t 11), (.t 12)]] [0,1,2000000,2000001]) skip_3
abbrev skip_12 : AK := .seq (.reg [k 4 (.c (.bool false))] [4,2000000,2000001]) .ret
abbrev skip_10 : AK := .seq (.reg [m 5 1, bi 6 .lss 5 0, m 7 6, .gval 8 7 false false 43008 (.mov (.t 1)), .gval 9 7 false false 43009 (.bin .gtr (.t 8) (ci 32)), .v 10 (.pick (.t 7) (.c (.bool true)) (.t 9))] [0,1,10,2000000,2000001]) (.cond (.t 10) skip_12 .skip)
abbrev skip_1 : AK := .seq skip_10 skip_2
abbrev skip_0 : AK := .seq (.reg [k 4 (.c (.bool false))] [0,1,2000000,2000001]) skip_1
abbrev skip : AK := skip_0
theorem skip_fn : FnOK Tryz.prog 120 43000 2 skip [.tmp 4] := ⟨_, Tryz.func120, by kernel_rfl⟩
theorem skip_spec {h : HP} {a0 a1 : AV} {Post : HP → AV → List AV → Prop} (hp : HpN Tryz.prog skip [.tmp 4] 2 [(0, a0), (1, a1), (2000000, a0), (2000001, a1)] h Post) : Eng.Spec Tryz.prog 120 h [a0, a1] Post := spec_fn skip_fn rfl [(0, a0), (1, a1), (2000000, a0), (2000001, a1)] ⟨rfl, rfl, rfl, rfl, trivial⟩ hp
abbrev rbits_3 : AK := .seq (.reg [m 18 6, m 4 18, k 5 (.c (.bool true))] [4,5,2000000,2000001]) .ret
abbrev rbits_6 : AK := .seq (.reg [k 4 (.c (.int .u32 0)), k 5 (.c (.bool false))] [4,5,2000000,2000001]) .ret
abbrev rbits_4 : AK := .seq (.reg [m 14 0, m 15 1, .cal (some 16) false 44016 120 [(.t 14), (.t 15)], .v 17 (.un .not (.t 16))] [6,17,2000000,2000001]) (.cond (.t 17) rbits_6 .skip)
abbrev rbits_2 : AK := .seq rbits_4 rbits_3
abbrev rbits_1 : AK := .seq (.reg [m 9 0, m 10 1, .cal (some 11) false 44011 119 [(.t 9), (.t 10)], m 8 11, .v 12 (.ext (.t 8) 0), .v 13 (.ext (.t 8) 1), m 6 12, m 7 13] [0,1,6,2000000,2000001]) rbits_2
abbrev rbits_0 : AK := .seq (.reg [k 4 (.c (.int .u32 0)), k 5 (.c (.bool false))] [0,1,2000000,2000001]) rbits_1
abbrev rbits : AK := rbits_0
theorem rbits_fn : FnOK Tryz.prog 103 44000 2 rbits [.tmp 4, .tmp 5] := ⟨_, Tryz.func103, by kernel_rfl⟩
theorem rbits_spec {h : HP} {a0 a1 : AV} {Post : HP → AV → List AV → Prop} (hp : HpN Tryz.prog rbits [.tmp 4, .tmp 5] 2 [(0, a0), (1, a1), (2000000, a0), (2000001, a1)] h Post) : Eng.Spec Tryz.prog 103 h [a0, a1] Post := spec_fn rbits_fn rfl [(0, a0), (1, a1), (2000000, a0), (2000001, a1)] ⟨rfl, rfl, rfl, rfl, trivial⟩ hp
abbrev ralign_2 : AK := .reg [m 16 0, .v 17 (.nilc (.t 16)), .v 18 (.fldA false 3 1 (.t 17)), .v 19 (.ld false 1 (.t 18)), m 20 2, b 21 .sub 19 20, .v 22 (.nilc (.t 16)), .v 23 (.fldA false 3 1 (.t 22)), .effN false 45000 (.st 1 (.t 23) (.t 21))] [2000000]
abbrev ralign_1 : AK := .seq (.reg [m 8 0, .v 9 (.nilc (.t 8)), .v 10 (.fldA false 2 1 (.t 9)), .v 11 (.ld false 1 (.t 10)), m 12 2, b 13 .shr 11 12, .v 14 (.nilc (.t 8)), .v 15 (.fldA false 2 1 (.t 14)), .effN false 45000 (.st 1 (.t 15) (.t 13))] [0,2,2000000]) ralign_2
abbrev ralign_0 : AK := .seq (.reg [m 3 0, .v 4 (.nilc (.t 3)), .v 5 (.fldA false 3 1 (.t 4)), .v 6 (.ld false 1 (.t 5)), bi 7 .rem 6 8, m 2 7] [0,2,2000000]) ralign_1
abbrev ralign : AK := ralign_0
theorem ralign_fn : FnOK Tryz.prog 129 45000 1 ralign [] := ⟨_, Tryz.func129, by kernel_rfl⟩
theorem ralign_spec {h : HP} {a0 : AV} {Post : HP → AV → List AV → Prop} (hp : HpN Tryz.prog ralign [] 1 [(0, a0), (2000000, a0)] h Post) : Eng.Spec Tryz.prog 129 h [a0] Post := spec_fn ralign_fn rfl [(0, a0), (2000000, a0)] ⟨rfl, rfl, trivial⟩ hp
abbrev rbytes_5 : AK := .seq (.reg [m 44 0, .v 45 (.nilc (.t 44)), .v 46 (.fldA false 0 1 (.t 45)), .v 47 (.ld false 1 (.t 46)), m 48 6, m 49 6, m 50 1, b 51 .add 49 50, .v 52 (.slcS (.t 47) (some (.t 48)) (some (.t 51))), m 4 52, k 5 (.c (.bool true))] [4,5,2000000,2000001]) .ret
abbrev rbytes_4 : AK := .seq (.reg [m 32 0, m 33 0, m 34 0, m 35 6, m 36 1, b 37 .add 35 36, .v 38 (.nilc (.t 32)), .v 39 (.fldA false 1 1 (.t 38)), .effN false 46000 (.st 1 (.t 39) (.t 37)), .v 40 (.nilc (.t 33)), .v 41 (.fldA false 2 1 (.t 40)), .effN false 46000 (.st 1 (.t 41) (.c (.int .u64 0))), .v 42 (.nilc (.t 34)), .v 43 (.fldA false 3 1 (.t 42)), .effN false 46000 (.st 1 (.t 43) (ci 0))] [0,1,6,2000000,2000001]) rbytes_5
abbrev rbytes_8 : AK := .seq (.reg [k 4 (.c (.str [])), k 5 (.c (.bool false))] [4,5,2000000,2000001]) .ret
abbrev rbytes_6 : AK := .seq (.reg [m 19 1, bi 20 .lss 19 0, m 21 20, .gval 22 21 false false 46022 (.mov (.t 1)), .gval 23 21 false false 46023 (.mov (.t 0)), .gval 24 21 false false 46024 (.nilc (.t 23)), .gval 25 21 false false 46025 (.fldA false 0 1 (.t 24)), .gval 26 21 false false 46026 (.ld false 1 (.t 25)), .gval 27 21 false false 46027 (.len true (.t 26)), .gval 28 21 false false 46028 (.mov (.t 6)), .gval 29 21 false false 46029 (.bin .sub (.t 27) (.t 28)), .gval 30 21 false false 46030 (.bin .gtr (.t 22) (.t 29)), .v 31 (.pick (.t 21) (.c (.bool true)) (.t 30))] [0,1,6,31,2000000,2000001]) (.cond (.t 31) rbytes_8 .skip)
abbrev rbytes_3 : AK := .seq rbytes_6 rbytes_4
abbrev rbytes_2 : AK := .seq (.reg [u 46009 9 (.mov (.t 0)), u 46010 10 (.nilc (.t 9)), u 46011 11 (.fldA false 1 1 (.t 10)), u 46012 12 (.ld false 1 (.t 11)), u 46013 13 (.mov (.t 0)), u 46014 14 (.nilc (.t 13)), u 46015 15 (.fldA false 3 1 (.t 14)), u 46016 16 (.ld false 1 (.t 15)), u 46017 17 (.bin .quo (.t 16) (ci 8)), b 18 .sub 12 17, m 6 18] [0,1,6,2000000,2000001]) rbytes_3
abbrev rbytes_1 : AK := .seq (.reg [m 7 0, .cal (some 8) false 46008 129 [(.t 7)]] [0,1,2000000,2000001]) rbytes_2
abbrev rbytes_0 : AK := .seq (.reg [k 4 (.c (.str [])), k 5 (.c (.bool false))] [0,1,2000000,2000001]) rbytes_1
abbrev rbytes : AK := rbytes_0
theorem rbytes_fn : FnOK Tryz.prog 121 46000 2 rbytes [.tmp 4, .tmp 5] := ⟨_, Tryz.func121, by kernel_rfl⟩
theorem rbytes_spec {h : HP} {a0 a1 : AV} {Post : HP → AV → List AV → Prop} (hp : HpN Tryz.prog rbytes [.tmp 4, .tmp 5] 2 [(0, a0), (1, a1), (2000000, a0), (2000001, a1)] h Post) : Eng.Spec Tryz.prog 121 h [a0, a1] Post := spec_fn rbytes_fn rfl [(0, a0), (1, a1), (2000000, a0), (2000001, a1)] ⟨rfl, rfl, rfl, rfl, trivial⟩ hp
abbrev rused_1 : AK := .seq (.reg [u 47003 3 (.mov (.t 0)), u 47004 4 (.nilc (.t 3)), u 47005 5 (.fldA false 1 1 (.t 4)), u 47006 6 (.ld false 1 (.t 5)), u 47007 7 (.mov (.t 0)), u 47008 8 (.nilc (.t 7)), u 47009 9 (.fldA false 3 1 (.t 8)), u 47010 10 (.ld false 1 (.t 9)), u 47011 11 (.bin .quo (.t 10) (ci 8)), u 47012 12 (.bin .sub (.t 6) (.t 11)), u 47013 13 (.mov (.t 0)), u 47014 14 (.nilc (.t 13)), u 47015 15 (.fldA false 4 1 (.t 14)), u 47016 16 (.ld false 1 (.t 15)), b 17 .sub 12 16, m 2 17] [2,2000000]) .ret
abbrev rused_0 : AK := .seq (.reg [k 2 (ci 0)] [0,2000000]) rused_1
abbrev rused : AK := rused_0
theorem rused_fn : FnOK Tryz.prog 78 47000 1 rused [.tmp 2] := ⟨_, Tryz.func78, by kernel_rfl⟩
theorem rused_spec {h : HP} {a0 : AV} {Post : HP → AV → List AV → Prop} (hp : HpN Tryz.prog rused [.tmp 2] 1 [(0, a0), (2000000, a0)] h Post) : Eng.Spec Tryz.prog 78 h [a0] Post := spec_fn rused_fn rfl [(0, a0), (2000000, a0)] ⟨rfl, rfl, trivial⟩ hp
abbrev rleft_1 : AK := .seq (.reg [u 48003 3 (.mov (.t 0)), u 48004 4 (.nilc (.t 3)), u 48005 5 (.fldA false 0 1 (.t 4)), u 48006 6 (.ld false 1 (.t 5)), u 48007 7 (.len true (.t 6)), u 48008 8 (.mov (.t 0)), u 48009 9 (.nilc (.t 8)), u 48010 10 (.fldA false 1 1 (.t 9)), u 48011 11 (.ld false 1 (.t 10)), u 48012 12 (.bin .sub (.t 7) (.t 11)), u 48013 13 (.bin .mul (ci 8) (.t 12)), u 48014 14 (.mov (.t 0)), u 48015 15 (.nilc (.t 14)), u 48016 16 (.fldA false 3 1 (.t 15)), u 48017 17 (.ld false 1 (.t 16)), b 18 .add 13 17, m 2 18] [2,2000000]) .ret
abbrev rleft_0 : AK := .seq (.reg [k 2 (ci 0)] [0,2000000]) rleft_1
abbrev rleft : AK := rleft_0
theorem rleft_fn : FnOK Tryz.prog 123 48000 1 rleft [.tmp 2] := ⟨_, Tryz.func123, by kernel_rfl⟩
theorem rleft_spec {h : HP} {a0 : AV} {Post : HP → AV → List AV → Prop} (hp : HpN Tryz.prog rleft [.tmp 2] 1 [(0, a0), (2000000, a0)] h Post) : Eng.Spec Tryz.prog 123 h [a0] Post := spec_fn rleft_fn rfl [(0, a0), (2000000, a0)] ⟨rfl, rfl, trivial⟩ hp
abbrev hnew_7 : AK := .seq (.reg [m 105 4, m 2 105, k 3 (ci 0)] [2,3]) .ret
abbrev hnew_10 : AK := .seq (.reg [k 2 (.c (.lit (.pointer none))), k 3 (ci 4)] [2,3]) .ret
abbrev hnew_8 : AK := .seq (.reg [m 86 7, bi 87 .gtr 86 0, m 88 87, .gval 89 88 true false 49089 (.mov (.t 8)), .gval 90 88 true false 49090 (.bin .gtr (.t 89) (ci 0)), .v 91 (.pick (.t 88) (.t 90) (.c (.bool false))), m 92 91, .gval 93 92 true false 49093 (.mov (.t 8)), .gval 94 92 true false 49094 (.bin .eql (.t 93) (ci 1)), .gval 95 92 true false 49095 (.mov (.t 94)), .gval 96 95 true false 49096 (.mov (.t 4)), .gval 97 95 true false 49097 (.nilc (.t 96)), .gval 98 95 true false 49098 (.fldA true 1 16 (.t 97)), .gval 99 95 true false 49099 (.idxP 16 1 (.t 98) (ci 1)), .gval 100 95 true false 49100 (.ld false 1 (.t 99)), .gval 101 95 true false 49101 (.bin .eql (.t 100) (ci 1)), .gval 102 92 true false 49102 (.pick (.t 95) (.t 101) (.c (.bool false))), .gval 103 92 true false 49103 (.un .not (.t 102)), .v 104 (.pick (.t 92) (.t 103) (.c (.bool false)))] [4,104]) (.cond (.t 104) hnew_10 .skip)
abbrev hnew_6 : AK := .seq hnew_8 hnew_7
abbrev hnew_15 : AK := .reg [m 44 9, bi 45 .add 44 1, m 9 45] [0,4,7,8,9]
abbrev hnew_25 : AK := .reg [bi 85 .add 67 1, m 67 85] [0,4,7,8,9,65,66,67]
abbrev hnew_30 : AK := .reg [m 75 4, m 76 4, .v 77 (.nilc (.t 76)), .v 78 (.fldA false 17 1 (.t 77)), .v 79 (.ld false 1 (.t 78)), m 80 10, .eff 81 false 49081 (.bsl 1 [(.t 80)]), .eff 82 false 49082 (.app 1 8 (.t 79) (.t 81)), .v 83 (.nilc (.t 75)), .v 84 (.fldA false 17 1 (.t 83)), .effN false 49000 (.st 1 (.t 84) (.t 82))] [0,4,7,8,9,65,66,67]
abbrev hnew_28 : AK := .seq (.reg [m 72 11, m 73 9, b 74 .eql 72 73] [0,4,7,8,9,10,65,66,67,74]) (.cond (.t 74) hnew_30 .skip)
abbrev hnew_27 : AK := .seq (.reg [m 69 67, .v 70 (.idxA 1 (.t 65) (.t 67)), .v 71 (.ld false 1 (.t 70)), m 10 69, m 11 71] [0,4,7,8,9,10,11,65,66,67]) hnew_28
abbrev hnew_24 : AK := .seq (.block 5 hnew_27) hnew_25
abbrev hnew_23 : AK := .seq (.cond (.t 68) .skip (.exit 4)) hnew_24
abbrev hnew_22 : AK := .seq (.reg [b 68 .lss 67 66] [0,4,7,8,9,65,66,67,68]) hnew_23
abbrev hnew_L1 : AK := .loop hnew_22
abbrev hnew_20 : AK := .seq (.reg [m 65 0, .v 66 (.len false (.t 65)), k 67 (ci 0)] [0,4,7,8,9,65,66,67]) (.block 4 hnew_L1)
abbrev hnew_34 : AK := .seq (.reg [k 2 (.c (.lit (.pointer none))), k 3 (ci 4)] [2,3]) .ret
abbrev hnew_32 : AK := .seq (.reg [m 63 7, bi 64 .lss 63 0] [0,4,7,8,9,64]) (.cond (.t 64) hnew_34 .skip)
abbrev hnew_19 : AK := .seq hnew_32 hnew_20
abbrev hnew_18 : AK := .seq (.reg [m 55 8, m 56 4, m 57 9, .v 58 (.nilc (.t 56)), .v 59 (.fldA true 1 16 (.t 58)), .v 60 (.idxP 16 1 (.t 59) (.t 57)), .v 61 (.ld false 1 (.t 60)), b 62 .add 55 61, m 8 62] [0,4,7,8,9]) hnew_19
abbrev hnew_17 : AK := .seq (.reg [m 46 7, .v 47 (.bin .mul (ci 2) (.t 46)), m 48 4, m 49 9, .v 50 (.nilc (.t 48)), .v 51 (.fldA true 1 16 (.t 50)), .v 52 (.idxP 16 1 (.t 51) (.t 49)), .v 53 (.ld false 1 (.t 52)), b 54 .sub 47 53, m 7 54] [0,4,7,8,9]) hnew_18
abbrev hnew_14 : AK := .seq (.block 3 hnew_17) hnew_15
abbrev hnew_35 : AK := .seq (.reg [m 42 9, bi 43 .leq 42 15] [0,4,7,8,9,43]) (.cond (.t 43) .skip (.exit 2))
abbrev hnew_13 : AK := .seq hnew_35 hnew_14
abbrev hnew_L0 : AK := .loop hnew_13
abbrev hnew_11 : AK := .seq (.reg [k 9 (ci 1)] [0,4,7,8,9]) (.block 2 hnew_L0)
abbrev hnew_5 : AK := .seq hnew_11 hnew_6
abbrev hnew_4 : AK := .seq (.reg [k 7 (ci 1), k 8 (ci 0)] [0,4,7,8]) hnew_5
abbrev hnew_42 : AK := .reg [bi 41 .add 21 1, m 21 41] [0,4,19,20,21]
abbrev hnew_46 : AK := .reg [m 31 4, u 49032 32 (.mov (.t 6)), u 49033 33 (.nilc (.t 31)), u 49034 34 (.fldA true 1 16 (.t 33)), u 49035 35 (.idxP 16 1 (.t 34) (.t 32)), u 49036 36 (.ld false 1 (.t 35)), u 49037 37 (.bin .add (.t 36) (ci 1)), u 49038 38 (.nilc (.t 31)), u 49039 39 (.fldA true 1 16 (.t 38)), .v 40 (.idxP 16 1 (.t 39) (.t 32)), .effN false 49000 (.st 1 (.t 40) (.t 37))] [0,4,19,20,21]
abbrev hnew_49 : AK := .seq (.reg [k 2 (.c (.lit (.pointer none))), k 3 (ci 1)] [2,3]) .ret
abbrev hnew_47 : AK := .seq (.reg [m 25 6, bi 26 .lss 25 0, m 27 26, .gval 28 27 false false 49028 (.mov (.t 6)), .gval 29 27 false false 49029 (.bin .gtr (.t 28) (ci 15)), .v 30 (.pick (.t 27) (.c (.bool true)) (.t 29))] [0,4,6,19,20,21,30]) (.cond (.t 30) hnew_49 .skip)
abbrev hnew_45 : AK := .seq hnew_47 hnew_46
abbrev hnew_44 : AK := .seq (.reg [.v 23 (.idxA 1 (.t 19) (.t 21)), .v 24 (.ld false 1 (.t 23)), m 6 24] [0,4,6,19,20,21]) hnew_45
abbrev hnew_41 : AK := .seq (.block 1 hnew_44) hnew_42
abbrev hnew_40 : AK := .seq (.cond (.t 22) .skip (.exit 0)) hnew_41
abbrev hnew_39 : AK := .seq (.reg [b 22 .lss 21 20] [0,4,19,20,21,22]) hnew_40
abbrev hnew_L2 : AK := .loop hnew_39
abbrev hnew_37 : AK := .seq (.reg [m 19 0, .v 20 (.len false (.t 19)), k 21 (ci 0)] [0,4,19,20,21]) (.block 0 hnew_L2)
abbrev hnew_3 : AK := .seq hnew_37 hnew_4
abbrev hnew_2 : AK := .seq (.reg [m 15 0, .eff 16 false 49016 (.app 1 8 (.c (.nilsl)) (.t 15)), .v 17 (.bld [.nilsl, .int .i64 0, .int .i64 0, .int .i64 0, .int .i64 0, .int .i64 0, .int .i64 0, .int .i64 0, .int .i64 0, .int .i64 0, .int .i64 0, .int .i64 0, .int .i64 0, .int .i64 0, .int .i64 0, .int .i64 0, .int .i64 0, .nilsl] [(0, 1, (.t 16))]), .eff 18 false 49018 (.box 18 (.t 17)), m 4 18] [0,4]) hnew_3
abbrev hnew_53 : AK := .seq (.reg [k 2 (.c (.lit (.pointer none))), k 3 (ci 2)] [2,3]) .ret
abbrev hnew_51 : AK := .seq (.reg [m 12 0, .v 13 (.len false (.t 12)), bi 14 .gtr 13 320] [0,14]) (.cond (.t 14) hnew_53 .skip)
abbrev hnew_1 : AK := .seq hnew_51 hnew_2
abbrev hnew_0 : AK := .seq (.reg [k 2 (.c (.lit (.pointer none))), k 3 (ci 0)] [0]) hnew_1
abbrev hnew : AK := hnew_0
theorem hnew_fn : FnOK Tryz.prog 115 49000 1 hnew [.tmp 2, .tmp 3] := ⟨_, Tryz.func115, by kernel_rfl⟩
theorem hnew_spec {h : HP} {a0 : AV} {Post : HP → AV → List AV → Prop} (hp : HpN Tryz.prog hnew [.tmp 2, .tmp 3] 1 [(0, a0)] h Post) : Eng.Spec Tryz.prog 115 h [a0] Post := spec_fn hnew_fn rfl [(0, a0)] ⟨rfl, trivial⟩ hp
abbrev hread_4 : AK := .seq (.reg [k 4 (ci 0), k 5 (ci 3)] [4,5,2000000,2000001]) .ret
abbrev hread_9 : AK := .reg [m 21 9, bi 22 .add 21 1, m 9 22] [0,1,6,7,8,9,2000000,2000001]
abbrev hread_17 : AK := .seq (.reg [m 72 8, m 73 0, .v 74 (.nilc (.t 73)), .v 75 (.fldA false 17 1 (.t 74)), .v 76 (.ld false 1 (.t 75)), .v 77 (.len false (.t 76)), b 78 .eql 72 77] [0,1,6,7,8,9,78,2000000,2000001]) (.cond (.t 78) (.exit 0) .skip)
abbrev hread_16 : AK := .seq (.reg [m 63 7, m 64 0, m 65 9, .v 66 (.nilc (.t 64)), .v 67 (.fldA true 1 16 (.t 66)), .v 68 (.idxP 16 1 (.t 67) (.t 65)), .v 69 (.ld false 1 (.t 68)), b 70 .add 63 69, .v 71 (.bin .shl (.t 70) (.c (.int .u64 1))), m 7 71] [0,1,6,7,8,9,2000000,2000001]) hread_17
abbrev hread_15 : AK := .seq (.reg [m 55 8, m 56 0, m 57 9, .v 58 (.nilc (.t 56)), .v 59 (.fldA true 1 16 (.t 58)), .v 60 (.idxP 16 1 (.t 59) (.t 57)), .v 61 (.ld false 1 (.t 60)), b 62 .add 55 61, m 8 62] [0,1,6,7,8,9,2000000,2000001]) hread_16
abbrev hread_22 : AK := .seq (.reg [m 46 0, .v 47 (.nilc (.t 46)), .v 48 (.fldA false 17 1 (.t 47)), .v 49 (.ld false 1 (.t 48)), m 50 8, m 51 12, b 52 .add 50 51, .v 53 (.idxA 1 (.t 49) (.t 52)), .v 54 (.ld false 1 (.t 53)), m 4 54, k 5 (ci 0)] [4,5,2000000,2000001]) .ret
abbrev hread_20 : AK := .seq (.reg [m 38 12, m 39 0, m 40 9, .v 41 (.nilc (.t 39)), .v 42 (.fldA true 1 16 (.t 41)), .v 43 (.idxP 16 1 (.t 42) (.t 40)), .v 44 (.ld false 1 (.t 43)), b 45 .lss 38 44] [0,1,6,7,8,9,12,45,2000000,2000001]) (.cond (.t 45) hread_22 .skip)
abbrev hread_19 : AK := .seq (.reg [m 35 6, m 36 7, b 37 .sub 35 36, m 12 37] [0,1,6,7,8,9,12,2000000,2000001]) hread_20
abbrev hread_14 : AK := .seq hread_19 hread_15
abbrev hread_13 : AK := .seq (.reg [m 30 6, .v 31 (.bin .shl (.t 30) (.c (.int .u64 1))), m 32 10, .v 33 (.cvi .i64 (.t 32)), b 34 .or 31 33, m 6 34] [0,1,6,7,8,9,2000000,2000001]) hread_14
abbrev hread_25 : AK := .seq (.reg [k 4 (ci 0), k 5 (ci 6)] [4,5,2000000,2000001]) .ret
abbrev hread_23 : AK := .seq (.reg [m 28 11, .v 29 (.un .not (.t 28))] [0,1,6,7,8,9,10,29,2000000,2000001]) (.cond (.t 29) hread_25 .skip)
abbrev hread_12 : AK := .seq hread_23 hread_13
abbrev hread_11 : AK := .seq (.reg [m 24 1, .cal (some 25) false 50025 103 [(.t 24), (ci 1)], m 23 25, .v 26 (.ext (.t 23) 0), .v 27 (.ext (.t 23) 1), m 10 26, m 11 27] [0,1,6,7,8,9,10,11,2000000,2000001]) hread_12
abbrev hread_8 : AK := .seq (.block 1 hread_11) hread_9
abbrev hread_26 : AK := .seq (.reg [m 19 9, bi 20 .leq 19 15] [0,1,6,7,8,9,20,2000000,2000001]) (.cond (.t 20) .skip (.exit 0))
abbrev hread_7 : AK := .seq hread_26 hread_8
abbrev hread_L0 : AK := .loop hread_7
abbrev hread_5 : AK := .seq (.reg [k 9 (ci 1)] [0,1,6,7,8,9,2000000,2000001]) (.block 0 hread_L0)
abbrev hread_3 : AK := .seq hread_5 hread_4
abbrev hread_2 : AK := .seq (.reg [k 6 (ci 0), k 7 (ci 0), k 8 (ci 0)] [0,1,6,7,8,2000000,2000001]) hread_3
abbrev hread_30 : AK := .seq (.reg [k 4 (ci 0), k 5 (ci 3)] [4,5,2000000,2000001]) .ret
abbrev hread_28 : AK := .seq (.reg [m 13 0, .v 14 (.nilc (.t 13)), .v 15 (.fldA false 17 1 (.t 14)), .v 16 (.ld false 1 (.t 15)), .v 17 (.len false (.t 16)), bi 18 .eql 17 0] [0,1,18,2000000,2000001]) (.cond (.t 18) hread_30 .skip)
abbrev hread_1 : AK := .seq hread_28 hread_2
abbrev hread_0 : AK := .seq (.reg [k 4 (ci 0), k 5 (ci 0)] [0,1,2000000,2000001]) hread_1
abbrev hread : AK := hread_0
theorem hread_fn : FnOK Tryz.prog 106 50000 2 hread [.tmp 4, .tmp 5] := ⟨_, Tryz.func106, by kernel_rfl⟩
theorem hread_spec {h : HP} {a0 a1 : AV} {Post : HP → AV → List AV → Prop} (hp : HpN Tryz.prog hread [.tmp 4, .tmp 5] 2 [(0, a0), (1, a1), (2000000, a0), (2000001, a1)] h Post) : Eng.Spec Tryz.prog 106 h [a0, a1] Post := spec_fn hread_fn rfl [(0, a0), (1, a1), (2000000, a0), (2000001, a1)] ⟨rfl, rfl, rfl, rfl, trivial⟩ hp
abbrev r3bits_3 : AK := .seq (.reg [m 27 3, m 2 27] [2]) .ret
abbrev r3bits_8 : AK := .reg [m 11 4, bi 12 .add 11 1, m 4 12] [0,3,4]
abbrev r3bits_14 : AK := .reg [m 15 5, bi 16 .add 15 1, m 5 16] [0,3,4,5]
abbrev r3bits_16 : AK := .reg [m 17 3, m 18 0, m 19 4, .v 20 (.sidx (.t 18) (.t 19)), m 21 5, b 22 .shr 20 21, .v 23 (.bin .and (.t 22) (.c (.int .u8 1))), .v 24 (.bin .eql (.t 23) (.c (.int .u8 1))), .eff 25 false 51025 (.bsl 1 [(.t 24)]), .eff 26 false 51026 (.app 1 1 (.t 17) (.t 25)), m 3 26] [0,3,4,5]
abbrev r3bits_13 : AK := .seq (.block 3 r3bits_16) r3bits_14
abbrev r3bits_17 : AK := .seq (.reg [m 13 5, bi 14 .lss 13 8] [0,3,4,5,14]) (.cond (.t 14) .skip (.exit 2))
abbrev r3bits_12 : AK := .seq r3bits_17 r3bits_13
abbrev r3bits_L1 : AK := .loop r3bits_12
abbrev r3bits_10 : AK := .seq (.reg [k 5 (ci 0)] [0,3,4,5]) (.block 2 r3bits_L1)
abbrev r3bits_7 : AK := .seq (.block 1 r3bits_10) r3bits_8
abbrev r3bits_19 : AK := .seq (.reg [m 7 4, m 8 0, .v 9 (.len true (.t 8)), b 10 .lss 7 9] [0,3,4,10]) (.cond (.t 10) .skip (.exit 0))
abbrev r3bits_6 : AK := .seq r3bits_19 r3bits_7
abbrev r3bits_L0 : AK := .loop r3bits_6
abbrev r3bits_4 : AK := .seq (.reg [k 4 (ci 0)] [0,3,4]) (.block 0 r3bits_L0)
abbrev r3bits_2 : AK := .seq r3bits_4 r3bits_3
abbrev r3bits_1 : AK := .seq (.reg [.eff 6 false 51006 (.bsl 1 []), m 3 6] [0,3]) r3bits_2
abbrev r3bits_0 : AK := .seq (.reg [k 2 (.c (.nilsl))] [0]) r3bits_1
abbrev r3bits : AK := r3bits_0
theorem r3bits_fn : FnOK Tryz.prog 81 51000 1 r3bits [.tmp 2] := ⟨_, Tryz.func81, by kernel_rfl⟩
theorem r3bits_spec {h : HP} {a0 : AV} {Post : HP → AV → List AV → Prop} (hp : HpN Tryz.prog r3bits [.tmp 2] 1 [(0, a0)] h Post) : Eng.Spec Tryz.prog 81 h [a0] Post := spec_fn r3bits_fn rfl [(0, a0)] ⟨rfl, trivial⟩ hp
abbrev r3number_3 : AK := .seq (.reg [m 20 3, m 2 20] [2]) .ret
abbrev r3number_8 : AK := .reg [m 10 4, bi 11 .sub 10 1, m 4 11] [0,3,4]
abbrev r3number_13 : AK := .reg [m 18 3, .v 19 (.bin .add (.t 18) (.c (.int .u32 1))), m 3 19] [0,3,4]
abbrev r3number_11 : AK := .seq (.reg [m 14 0, m 15 4, .v 16 (.idxA 1 (.t 14) (.t 15)), .v 17 (.ld false 1 (.t 16))] [0,3,4,17]) (.cond (.t 17) r3number_13 .skip)
abbrev r3number_10 : AK := .seq (.reg [m 12 3, .v 13 (.bin .mul (.c (.int .u32 2)) (.t 12)), m 3 13] [0,3,4]) r3number_11
abbrev r3number_7 : AK := .seq (.block 1 r3number_10) r3number_8
abbrev r3number_14 : AK := .seq (.reg [m 8 4, bi 9 .geq 8 0] [0,3,4,9]) (.cond (.t 9) .skip (.exit 0))
abbrev r3number_6 : AK := .seq r3number_14 r3number_7
abbrev r3number_L0 : AK := .loop r3number_6
abbrev r3number_4 : AK := .seq (.reg [m 5 0, .v 6 (.len false (.t 5)), bi 7 .sub 6 1, m 4 7] [0,3,4]) (.block 0 r3number_L0)
abbrev r3number_2 : AK := .seq r3number_4 r3number_3
abbrev r3number_1 : AK := .seq (.reg [k 3 (.c (.int .u32 0))] [0,3]) r3number_2
abbrev r3number_0 : AK := .seq (.reg [k 2 (.c (.int .u32 0))] [0]) r3number_1
abbrev r3number : AK := r3number_0
theorem r3number_fn : FnOK Tryz.prog 109 52000 1 r3number [.tmp 2] := ⟨_, Tryz.func109, by kernel_rfl⟩
theorem r3number_spec {h : HP} {a0 : AV} {Post : HP → AV → List AV → Prop} (hp : HpN Tryz.prog r3number [.tmp 2] 1 [(0, a0)] h Post) : Eng.Spec Tryz.prog 109 h [a0] Post := spec_fn r3number_fn rfl [(0, a0)] ⟨rfl, trivial⟩ hp
abbrev r3up_1 : AK := .seq (.reg [m 3 0, bi 4 .add 3 7, bi 5 .quo 4 8, bi 6 .mul 5 8, m 2 6] [2]) .ret
abbrev r3up_0 : AK := .seq (.reg [k 2 (ci 0)] [0]) r3up_1
abbrev r3up : AK := r3up_0
theorem r3up_fn : FnOK Tryz.prog 88 53000 1 r3up [.tmp 2] := ⟨_, Tryz.func88, by kernel_rfl⟩
theorem r3up_spec {h : HP} {a0 : AV} {Post : HP → AV → List AV → Prop} (hp : HpN Tryz.prog r3up [.tmp 2] 1 [(0, a0)] h Post) : Eng.Spec Tryz.prog 88 h [a0] Post := spec_fn r3up_fn rfl [(0, a0)] ⟨rfl, trivial⟩ hp
abbrev r4check_5 : AK := .seq (.reg [k 2 (ci 0)] [2]) .ret
abbrev r4check_8 : AK := .seq (.reg [k 2 (ci 4)] [2]) .ret
abbrev r4check_6 : AK := .seq (.reg [m 44 3, bi 45 .gtr 44 32768, m 46 45, .gval 47 46 false false 54047 (.mov (.t 3)), .gval 48 46 false false 54048 (.bin .lss (.t 47) (ci 32768)), .gval 49 46 false false 54049 (.mov (.t 48)), .gval 50 49 true false 54050 (.mov (.t 4)), .gval 51 49 true false 54051 (.bin .gtr (.t 50) (ci 0)), .gval 52 46 false false 54052 (.pick (.t 49) (.t 51) (.c (.bool false))), .gval 53 46 false false 54053 (.mov (.t 52)), .gval 54 53 true false 54054 (.mov (.t 4)), .gval 55 53 true false 54055 (.bin .eql (.t 54) (ci 1)), .gval 56 53 true false 54056 (.mov (.t 55)), .gval 57 56 true false 54057 (.mov (.t 5)), .gval 58 56 true false 54058 (.bin .eql (.t 57) (ci 1)), .gval 59 53 true false 54059 (.pick (.t 56) (.t 58) (.c (.bool false))), .gval 60 53 true false 54060 (.un .not (.t 59)), .gval 61 46 false false 54061 (.pick (.t 53) (.t 60) (.c (.bool false))), .v 62 (.pick (.t 46) (.c (.bool true)) (.t 61))] [62]) (.cond (.t 62) r4check_8 .skip)
abbrev r4check_4 : AK := .seq r4check_6 r4check_5
abbrev r4check_14 : AK := .reg [bi 43 .add 15 1, m 15 43] [3,4,5,13,14,15]
abbrev r4check_21 : AK := .reg [m 41 5, bi 42 .add 41 1, m 5 42] [3,4,5,13,14,15]
abbrev r4check_19 : AK := .seq (.reg [m 39 7, bi 40 .eql 39 1] [3,4,5,13,14,15,40]) (.cond (.t 40) r4check_21 .skip)
abbrev r4check_27 : AK := .reg [m 36 3, m 37 8, b 38 .add 36 37, m 3 38] [3,4,5,7,13,14,15]
abbrev r4check_32 : AK := .reg [m 32 9, bi 33 .add 32 1, m 9 33] [3,4,5,7,8,9,13,14,15]
abbrev r4check_34 : AK := .reg [m 34 8, bi 35 .quo 34 2, m 8 35] [3,4,5,7,8,9,13,14,15]
abbrev r4check_31 : AK := .seq (.block 3 r4check_34) r4check_32
abbrev r4check_35 : AK := .seq (.reg [m 29 9, m 30 7, b 31 .lss 29 30] [3,4,5,7,8,9,13,14,15,31]) (.cond (.t 31) .skip (.exit 2))
abbrev r4check_30 : AK := .seq r4check_35 r4check_31
abbrev r4check_L1 : AK := .loop r4check_30
abbrev r4check_28 : AK := .seq (.reg [k 9 (ci 0)] [3,4,5,7,8,9,13,14,15]) (.block 2 r4check_L1)
abbrev r4check_26 : AK := .seq r4check_28 r4check_27
abbrev r4check_25 : AK := .seq (.reg [k 8 (ci 32768)] [3,4,5,7,8,13,14,15]) r4check_26
abbrev r4check_24 : AK := .seq (.reg [m 27 4, bi 28 .add 27 1, m 4 28] [3,4,5,7,13,14,15]) r4check_25
abbrev r4check_22 : AK := .seq (.reg [m 25 7, bi 26 .gtr 25 0] [3,4,5,7,13,14,15,26]) (.cond (.t 26) r4check_24 .skip)
abbrev r4check_18 : AK := .seq r4check_22 r4check_19
abbrev r4check_39 : AK := .seq (.reg [k 2 (ci 1)] [2]) .ret
abbrev r4check_37 : AK := .seq (.reg [m 19 7, bi 20 .lss 19 0, m 21 20, .gval 22 21 false false 54022 (.mov (.t 7)), .gval 23 21 false false 54023 (.bin .gtr (.t 22) (ci 15)), .v 24 (.pick (.t 21) (.c (.bool true)) (.t 23))] [3,4,5,7,13,14,15,24]) (.cond (.t 24) r4check_39 .skip)
abbrev r4check_17 : AK := .seq r4check_37 r4check_18
abbrev r4check_16 : AK := .seq (.reg [.v 17 (.idxA 1 (.t 13) (.t 15)), .v 18 (.ld false 1 (.t 17)), m 7 18] [3,4,5,7,13,14,15]) r4check_17
abbrev r4check_13 : AK := .seq (.block 1 r4check_16) r4check_14
abbrev r4check_12 : AK := .seq (.cond (.t 16) .skip (.exit 0)) r4check_13
abbrev r4check_11 : AK := .seq (.reg [b 16 .lss 15 14] [3,4,5,13,14,15,16]) r4check_12
abbrev r4check_L0 : AK := .loop r4check_11
abbrev r4check_9 : AK := .seq (.reg [m 13 0, .v 14 (.len false (.t 13)), k 15 (ci 0)] [3,4,5,13,14,15]) (.block 0 r4check_L0)
abbrev r4check_3 : AK := .seq r4check_9 r4check_4
abbrev r4check_2 : AK := .seq (.reg [k 3 (ci 0), k 4 (ci 0), k 5 (ci 0)] [0,3,4,5]) r4check_3
abbrev r4check_43 : AK := .seq (.reg [k 2 (ci 2)] [2]) .ret
abbrev r4check_41 : AK := .seq (.reg [m 10 0, .v 11 (.len false (.t 10)), bi 12 .gtr 11 320] [0,12]) (.cond (.t 12) r4check_43 .skip)
abbrev r4check_1 : AK := .seq r4check_41 r4check_2
abbrev r4check_0 : AK := .seq (.reg [k 2 (ci 0)] [0]) r4check_1
abbrev r4check : AK := r4check_0
theorem r4check_fn : FnOK Tryz.prog 114 54000 1 r4check [.tmp 2] := ⟨_, Tryz.func114, by kernel_rfl⟩
theorem r4check_spec {h : HP} {a0 : AV} {Post : HP → AV → List AV → Prop} (hp : HpN Tryz.prog r4check [.tmp 2] 1 [(0, a0)] h Post) : Eng.Spec Tryz.prog 114 h [a0] Post := spec_fn r4check_fn rfl [(0, a0)] ⟨rfl, trivial⟩ hp
abbrev r4codes_5 : AK := .seq (.reg [m 58 3, m 2 58] [2]) .ret
abbrev r4codes_10 : AK := .reg [m 22 5, bi 23 .add 22 1, m 5 23] [0,3,4,5]
abbrev r4codes_18 : AK := .reg [bi 57 .add 28 1, m 28 57] [0,3,4,5,26,27,28]
abbrev r4codes_26 : AK := .reg [m 55 4, bi 56 .add 55 1, m 4 56] [0,3,4,5,26,27,28]
abbrev r4codes_25 : AK := .seq (.reg [m 51 3, m 52 6, m 53 8, .v 54 (.idxA 1 (.t 51) (.t 52)), .effN false 55000 (.st 1 (.t 54) (.t 53))] [0,3,4,5,26,27,28]) r4codes_26
abbrev r4codes_31 : AK := .reg [m 41 10, bi 42 .add 41 1, m 10 42] [0,3,4,5,6,8,9,10,26,27,28]
abbrev r4codes_34 : AK := .reg [m 49 9, bi 50 .quo 49 2, m 9 50] [0,3,4,5,6,8,9,10,26,27,28]
abbrev r4codes_33 : AK := .seq (.reg [m 43 9, bi 44 .rem 43 2, bi 45 .eql 44 1, .eff 46 false 55046 (.bsl 1 [(.t 45)]), m 47 8, .eff 48 false 55048 (.app 1 1 (.t 46) (.t 47)), m 8 48] [0,3,4,5,6,8,9,10,26,27,28]) r4codes_34
abbrev r4codes_30 : AK := .seq (.block 7 r4codes_33) r4codes_31
abbrev r4codes_35 : AK := .seq (.reg [m 38 10, m 39 5, b 40 .lss 38 39] [0,3,4,5,6,8,9,10,26,27,28,40]) (.cond (.t 40) .skip (.exit 6))
abbrev r4codes_29 : AK := .seq r4codes_35 r4codes_30
abbrev r4codes_L2 : AK := .loop r4codes_29
abbrev r4codes_27 : AK := .seq (.reg [k 10 (ci 0)] [0,3,4,5,6,8,9,10,26,27,28]) (.block 6 r4codes_L2)
abbrev r4codes_24 : AK := .seq r4codes_27 r4codes_25
abbrev r4codes_23 : AK := .seq (.reg [m 37 4, m 9 37] [0,3,4,5,6,8,9,26,27,28]) r4codes_24
abbrev r4codes_22 : AK := .seq (.reg [.eff 36 false 55036 (.bsl 1 []), m 8 36] [0,3,4,5,6,8,26,27,28]) r4codes_23
abbrev r4codes_37 : AK := .seq (.reg [m 33 7, m 34 5, b 35 .neq 33 34] [0,3,4,5,6,26,27,28,35]) (.cond (.t 35) (.exit 5) .skip)
abbrev r4codes_21 : AK := .seq r4codes_37 r4codes_22
abbrev r4codes_20 : AK := .seq (.reg [m 30 28, .v 31 (.idxA 1 (.t 26) (.t 28)), .v 32 (.ld false 1 (.t 31)), m 6 30, m 7 32] [0,3,4,5,6,7,26,27,28]) r4codes_21
abbrev r4codes_17 : AK := .seq (.block 5 r4codes_20) r4codes_18
abbrev r4codes_16 : AK := .seq (.cond (.t 29) .skip (.exit 4)) r4codes_17
abbrev r4codes_15 : AK := .seq (.reg [b 29 .lss 28 27] [0,3,4,5,26,27,28,29]) r4codes_16
abbrev r4codes_L1 : AK := .loop r4codes_15
abbrev r4codes_13 : AK := .seq (.reg [m 26 0, .v 27 (.len false (.t 26)), k 28 (ci 0)] [0,3,4,5,26,27,28]) (.block 4 r4codes_L1)
abbrev r4codes_12 : AK := .seq (.reg [m 24 4, .v 25 (.bin .mul (ci 2) (.t 24)), m 4 25] [0,3,4,5]) r4codes_13
abbrev r4codes_9 : AK := .seq (.block 3 r4codes_12) r4codes_10
abbrev r4codes_40 : AK := .seq (.reg [m 20 5, bi 21 .leq 20 15] [0,3,4,5,21]) (.cond (.t 21) .skip (.exit 2))
abbrev r4codes_8 : AK := .seq r4codes_40 r4codes_9
abbrev r4codes_L0 : AK := .loop r4codes_8
abbrev r4codes_6 : AK := .seq (.reg [k 5 (ci 1)] [0,3,4,5]) (.block 2 r4codes_L0)
abbrev r4codes_4 : AK := .seq r4codes_6 r4codes_5
abbrev r4codes_3 : AK := .seq (.reg [k 4 (ci 0)] [0,3,4]) r4codes_4
abbrev r4codes_47 : AK := .reg [bi 19 .add 14 1, m 14 19] [0,3,13,14]
abbrev r4codes_49 : AK := .reg [m 16 3, .eff 17 false 55017 (.bsl 1 [(.c (.nilsl))]), .eff 18 false 55018 (.app 1 24 (.t 16) (.t 17)), m 3 18] [0,3,13,14]
abbrev r4codes_46 : AK := .seq (.block 1 r4codes_49) r4codes_47
abbrev r4codes_45 : AK := .seq (.cond (.t 15) .skip (.exit 0)) r4codes_46
abbrev r4codes_44 : AK := .seq (.reg [b 15 .lss 14 13] [0,3,13,14,15]) r4codes_45
abbrev r4codes_L3 : AK := .loop r4codes_44
abbrev r4codes_42 : AK := .seq (.reg [m 12 0, .v 13 (.len false (.t 12)), k 14 (ci 0)] [0,3,13,14]) (.block 0 r4codes_L3)
abbrev r4codes_2 : AK := .seq r4codes_42 r4codes_3
abbrev r4codes_1 : AK := .seq (.reg [.eff 11 false 55011 (.bsl 1 []), m 3 11] [0,3]) r4codes_2
abbrev r4codes_0 : AK := .seq (.reg [k 2 (.c (.nilsl))] [0]) r4codes_1
abbrev r4codes : AK := r4codes_0
theorem r4codes_fn : FnOK Tryz.prog 111 55000 1 r4codes [.tmp 2] := ⟨_, Tryz.func111, by kernel_rfl⟩
theorem r4codes_spec {h : HP} {a0 : AV} {Post : HP → AV → List AV → Prop} (hp : HpN Tryz.prog r4codes [.tmp 2] 1 [(0, a0)] h Post) : Eng.Spec Tryz.prog 111 h [a0] Post := spec_fn r4codes_fn rfl [(0, a0)] ⟨rfl, trivial⟩ hp
abbrev r4begins_3 : AK := .seq (.reg [k 4 (.c (.bool true))] [4]) .ret
abbrev r4begins_9 : AK := .reg [bi 25 .add 13 1, m 13 25] [0,1,12,13]
abbrev r4begins_14 : AK := .seq (.reg [k 4 (.c (.bool false))] [4]) .ret
abbrev r4begins_12 : AK := .seq (.reg [u 56016 16 (.mov (.t 1)), u 56017 17 (.mov (.t 5)), u 56018 18 (.idxA 1 (.t 16) (.t 17)), u 56019 19 (.ld false 1 (.t 18)), u 56020 20 (.mov (.t 0)), u 56021 21 (.mov (.t 5)), u 56022 22 (.idxA 1 (.t 20) (.t 21)), u 56023 23 (.ld false 1 (.t 22)), .v 24 (.beq true (.t 19) (.t 23))] [0,1,12,13,24]) (.cond (.t 24) r4begins_14 .skip)
abbrev r4begins_11 : AK := .seq (.reg [m 15 13, m 5 15] [0,1,5,12,13]) r4begins_12
abbrev r4begins_8 : AK := .seq (.block 1 r4begins_11) r4begins_9
abbrev r4begins_7 : AK := .seq (.cond (.t 14) .skip (.exit 0)) r4begins_8
abbrev r4begins_6 : AK := .seq (.reg [b 14 .lss 13 12] [0,1,12,13,14]) r4begins_7
abbrev r4begins_L0 : AK := .loop r4begins_6
abbrev r4begins_4 : AK := .seq (.reg [m 11 1, .v 12 (.len false (.t 11)), k 13 (ci 0)] [0,1,12,13]) (.block 0 r4begins_L0)
abbrev r4begins_2 : AK := .seq r4begins_4 r4begins_3
abbrev r4begins_18 : AK := .seq (.reg [k 4 (.c (.bool false))] [4]) .ret
abbrev r4begins_16 : AK := .seq (.reg [m 6 1, .v 7 (.len false (.t 6)), m 8 0, .v 9 (.len false (.t 8)), b 10 .gtr 7 9] [0,1,10]) (.cond (.t 10) r4begins_18 .skip)
abbrev r4begins_1 : AK := .seq r4begins_16 r4begins_2
abbrev r4begins_0 : AK := .seq (.reg [k 4 (.c (.bool false))] [0,1]) r4begins_1
abbrev r4begins : AK := r4begins_0
theorem r4begins_fn : FnOK Tryz.prog 130 56000 2 r4begins [.tmp 4] := ⟨_, Tryz.func130, by kernel_rfl⟩
theorem r4begins_spec {h : HP} {a0 a1 : AV} {Post : HP → AV → List AV → Prop} (hp : HpN Tryz.prog r4begins [.tmp 4] 2 [(0, a0), (1, a1)] h Post) : Eng.Spec Tryz.prog 130 h [a0, a1] Post := spec_fn r4begins_fn rfl [(0, a0), (1, a1)] ⟨rfl, rfl, trivial⟩ hp
abbrev r4read_5 : AK := .seq (.reg [k 4 (ci 0), k 5 (ci 0), k 6 (ci 3)] [4,5,6]) .ret
abbrev r4read_11 : AK := .reg [bi 47 .add 33 1, m 33 47] [1,31,32,33]
abbrev r4read_16 : AK := .seq (.reg [k 4 (ci 0), k 5 (ci 0), k 6 (ci 6)] [4,5,6]) .ret
abbrev r4read_14 : AK := .seq (.reg [m 37 11, .v 38 (.len false (.t 37)), m 39 1, .v 40 (.len false (.t 39)), b 41 .gtr 38 40, m 42 41, .gval 43 42 true false 57043 (.mov (.t 11)), .gval 44 42 true false 57044 (.mov (.t 1)), .gcal 45 42 true false 57045 130 [(.t 43), (.t 44)], .v 46 (.pick (.t 42) (.t 45) (.c (.bool false)))] [1,31,32,33,46]) (.cond (.t 46) r4read_16 .skip)
abbrev r4read_13 : AK := .seq (.reg [.v 35 (.idxA 1 (.t 31) (.t 33)), .v 36 (.ld false 1 (.t 35)), m 11 36] [1,11,31,32,33]) r4read_14
abbrev r4read_10 : AK := .seq (.block 3 r4read_13) r4read_11
abbrev r4read_9 : AK := .seq (.cond (.t 34) .skip (.exit 2)) r4read_10
abbrev r4read_8 : AK := .seq (.reg [b 34 .lss 33 32] [1,31,32,33,34]) r4read_9
abbrev r4read_L0 : AK := .loop r4read_8
abbrev r4read_6 : AK := .seq (.reg [m 31 0, .v 32 (.len false (.t 31)), k 33 (ci 0)] [1,31,32,33]) (.block 2 r4read_L0)
abbrev r4read_4 : AK := .seq r4read_6 r4read_5
abbrev r4read_20 : AK := .seq (.reg [k 4 (ci 0), k 5 (ci 0), k 6 (ci 3)] [4,5,6]) .ret
abbrev r4read_18 : AK := .seq (.reg [m 29 7, .v 30 (.un .not (.t 29))] [0,1,30]) (.cond (.t 30) r4read_20 .skip)
abbrev r4read_3 : AK := .seq r4read_18 r4read_4
abbrev r4read_26 : AK := .reg [bi 28 .add 14 1, m 14 28] [0,1,7,12,13,14]
abbrev r4read_34 : AK := .seq (.reg [m 25 8, m 26 9, .v 27 (.len false (.t 26)), m 4 25, m 5 27, k 6 (ci 0)] [4,5,6]) .ret
abbrev r4read_32 : AK := .seq (.reg [m 22 1, m 23 9, .cal (some 24) false 57024 130 [(.t 22), (.t 23)]] [0,1,7,8,9,12,13,14,24]) (.cond (.t 24) r4read_34 .skip)
abbrev r4read_31 : AK := .seq (.reg [k 7 (.c (.bool true))] [0,1,7,8,9,12,13,14]) r4read_32
abbrev r4read_29 : AK := .seq (.reg [m 19 9, .v 20 (.len false (.t 19)), bi 21 .gtr 20 0] [0,1,7,8,9,12,13,14,21]) (.cond (.t 21) r4read_31 .skip)
abbrev r4read_28 : AK := .seq (.reg [m 16 14, .v 17 (.idxA 1 (.t 12) (.t 14)), .v 18 (.ld false 1 (.t 17)), m 8 16, m 9 18] [0,1,7,8,9,12,13,14]) r4read_29
abbrev r4read_25 : AK := .seq (.block 1 r4read_28) r4read_26
abbrev r4read_24 : AK := .seq (.cond (.t 15) .skip (.exit 0)) r4read_25
abbrev r4read_23 : AK := .seq (.reg [b 15 .lss 14 13] [0,1,7,12,13,14,15]) r4read_24
abbrev r4read_L1 : AK := .loop r4read_23
abbrev r4read_21 : AK := .seq (.reg [m 12 0, .v 13 (.len false (.t 12)), k 14 (ci 0)] [0,1,7,12,13,14]) (.block 0 r4read_L1)
abbrev r4read_2 : AK := .seq r4read_21 r4read_3
abbrev r4read_1 : AK := .seq (.reg [k 7 (.c (.bool false))] [0,1,7]) r4read_2
abbrev r4read_0 : AK := .seq (.reg [k 4 (ci 0), k 5 (ci 0), k 6 (ci 0)] [0,1]) r4read_1
abbrev r4read : AK := r4read_0
theorem r4read_fn : FnOK Tryz.prog 125 57000 2 r4read [.tmp 4, .tmp 5, .tmp 6] := ⟨_, Tryz.func125, by kernel_rfl⟩
theorem r4read_spec {h : HP} {a0 a1 : AV} {Post : HP → AV → List AV → Prop} (hp : HpN Tryz.prog r4read [.tmp 4, .tmp 5, .tmp 6] 2 [(0, a0), (1, a1)] h Post) : Eng.Spec Tryz.prog 125 h [a0, a1] Post := spec_fn r4read_fn rfl [(0, a0), (1, a1)] ⟨rfl, rfl, trivial⟩ hp
end Go.Proofs.YtjoefngnjoofeaaGreatDoor.Cod
