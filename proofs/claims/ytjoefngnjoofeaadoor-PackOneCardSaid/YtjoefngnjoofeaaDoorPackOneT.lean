/- The proof, part 20 of 24. -/
import Derived.Test.YtjoefngnjoofeaaDoorPackOneM
import Derived.Test.YtjoefngnjoofeaaDoorPackOneQ
import Derived.Test.YtjoefngnjoofeaaDoorPackOneR
import Derived.Test.YtjoefngnjoofeaaDoorPackOneS
import Derived.Lib.ItoaMem
import Derived.Lib.AppendIntMem
set_option linter.all false
namespace Go.Proofs.YtjoefngnjoofeaaDoor.Pk
open Eng
set_option maxRecDepth 10000
theorem tab_of {P : Program} {name : String} {g : Nat} {k : IntKind} {zs : List Int} {w : World} {cs : Array Value} {t : TypeId} {fz : Nat × Nat} (hg : P.globalNamed name = some g) (hw : w.heap[g]? = some (.cells cs t fz)) (he : cs = (zs.map fun z => Value.int k z).toArray) : Lib.TabIs P w name k zs := by
 unfold Lib.TabIs World.var?
 rw [hg]
 simp only [Option.bind_some, hw, he]
theorem itoa_ok (n : Int) (h0 : -9223372036854775808 ≤ n) (h1 : n ≤ 9223372036854775807) : SpecR Tryd.prog 61 [.int .i64 n] (.str (Lib.itoa n)) := by
 refine spec_belowA rfl rfl (fun w hA => ?_)
 obtain ⟨cs, t, fz, g1, g2⟩ := hA (0, _) (by unfold glist; simp only [List.nil_append, List.cons_append, List.mem_cons]; exact .inl rfl)
 refine (Any.strconv_Itoa Tryd.laysM171 n h0 h1 w (tab_of (by kernel_rfl) g1 g2)).mono ?_
 rintro e w' ⟨rfl, k, os, rfl⟩
 exact ⟨rfl, Lib.below_grow _ _ (Nat.le_refl _) _ _⟩
def dB (k : Nat) : UInt8 := UInt8.ofNat (48 + k)
theorem dec_small {n : Nat} (h : n < 10) : Lib.decDigits n = [dB n] := by rw [Lib.decDigits, dif_pos h]; rfl
theorem dec_big {n : Nat} (h : ¬ n < 10) : Lib.decDigits n = Lib.decDigits (n / 10) ++ [dB (n % 10)] := by rw [Lib.decDigits, dif_neg h]; rfl
theorem dec_ne (n : Nat) : Lib.decDigits n ≠ [] := by
 by_cases h : n < 10
 ·rw [dec_small h]; simp
 ·rw [dec_big h]; simp
theorem dec_len : ∀ (k n : Nat), n < 10 ^ (k + 1) ↔ (Lib.decDigits n).length ≤ k + 1
 | 0, n => by
  by_cases h : n < 10
  ·rw [dec_small h]; simp; omega
  ·rw [dec_big h]
   have := List.length_pos_iff.2 (dec_ne (n / 10))
   simp only [List.length_append, List.length_singleton]
   omega
 | k + 1, n => by
  by_cases h : n < 10
  ·rw [dec_small h]
   have : 10 ^ 1 ≤ 10 ^ (k + 1 + 1) := Nat.pow_le_pow_right (by decide) (by omega)
   simp only [List.length_singleton]
   omega
  ·rw [dec_big h]
   have ih := dec_len k (n / 10)
   have : n < 10 ^ (k + 1 + 1) ↔ n / 10 < 10 ^ (k + 1) := by rw [Nat.div_lt_iff_lt_mul (by decide), Nat.pow_succ 10 (k + 1)]
   simp only [List.length_append, List.length_singleton]
   omega
theorem itoa_len (n : Int) (h : n ≤ 9223372036854775807) (h0 : -9223372036854775808 ≤ n) : (Lib.itoa n).length ≤ 20 := by
 unfold Lib.itoa
 split
 ·have := (dec_len 18 n.natAbs).1 (by omega)
  simp only [List.length_cons]; omega
 ·have := (dec_len 18 n.toNat).1 (by omega)
  omega
def nameP (k : Int) : Bs := if k = 1 then [99, 111, 109, 109, 105, 116] else if k = 2 then [116, 114, 101, 101] else if k = 3 then [98, 108, 111, 98] else if k = 4 then [116, 97, 103] else []
theorem name_ok (k : Int) : SpecR Tryd.prog 32 [.int .i64 k] (.str (nameP k)) := by
 refine Cod.oname_spec (fun E R hN hR => ?_)
 unfold nameP at hR
 by_cases h1 : k = 1
 ·subst h1
  simp (disch := omega) only [go_sem, simprocAttr]
  exact hR.ro ⟨rfl, rfl⟩
 by_cases h2 : k = 2
 ·subst h2
  simp (disch := omega) only [go_sem, simprocAttr]
  exact hR.ro ⟨rfl, rfl⟩
 by_cases h3 : k = 3
 ·subst h3
  simp (disch := omega) only [go_sem, simprocAttr]
  exact hR.ro ⟨rfl, rfl⟩
 by_cases h4 : k = 4
 ·subst h4
  simp (disch := omega) only [go_sem, simprocAttr]
  exact hR.ro ⟨rfl, rfl⟩
 rw [if_neg h1, if_neg h2, if_neg h3, if_neg h4] at hR
 simp (disch := omega) only [go_sem, simprocAttr]
 exact hR.ro ⟨rfl, rfl⟩
theorem name_len (k : Int) : (nameP k).length ≤ 6 := by
 unfold nameP
 repeat' (first | (split) | simp)
def objA (k : Int) (d : Bs) : AV := .agg [.int .i64 k, .str d]
def checkP (k : Int) (d : Bs) : Int := if nameP k = [] then 10 else if 65000 < d.length then 2 else 0
theorem check_ok (k : Int) (d : Bs) (hd : d.length ≤ 9223372036854775807) : SpecR Tryd.prog 15 [objA k d] (.int .i64 (checkP k d)) := by
 refine Cod.ocheck_spec (fun E R hN hR => ?_)
 unfold checkP at hR
 simp (disch := omega) only [go_sem, simprocAttr, objA]
 refine call_ro (name_ok k) rfl rfl ?_
 by_cases h1 : nameP k = []
 ·rw [if_pos h1] at hR
  simp (disch := omega) only [go_sem, simprocAttr, h1]
  exact hR.ro ⟨rfl, rfl⟩
 ·rw [if_neg h1] at hR
  by_cases h2 : 65000 < d.length
  ·rw [if_pos h2] at hR
   simp (disch := omega) only [go_sem, simprocAttr, h1]
   exact hR.ro ⟨rfl, rfl⟩
  ·rw [if_neg h2] at hR
   simp (disch := omega) only [go_sem, simprocAttr, h1]
   exact hR.ro ⟨rfl, rfl⟩
def textP (k : Int) (d : Bs) : Bs := nameP k ++ 32 :: (Lib.itoa d.length ++ 0 :: d)
def encA (k : Int) (d : Bs) : AV := if checkP k d = 0 then .tup [.str (textP k d), .int .i64 0] else .tup [.str [], .int .i64 (checkP k d)]
theorem encode_ok (k : Int) (d : Bs) (hd : d.length ≤ 9223372036854775807) : SpecR Tryd.prog 38 [objA k d] (encA k d) := by
 refine Cod.oencode_spec (fun E R hN hR => ?_)
 unfold encA at hR
 simp (disch := omega) only [go_sem, simprocAttr, objA]
 refine call_ro (check_ok k d hd) rfl rfl ?_
 by_cases h : checkP k d = 0
 ·rw [if_pos h] at hR
  have hl : d.length ≤ 65000 := by
   unfold checkP at h
   split at h
   ·cases h
   ·split at h
    ·cases h
    ·omega
  have hnl := name_len k
  have hil := itoa_len d.length (by omega) (by omega)
  have hi := itoa_ok d.length (by omega) (by omega)
  simp (disch := omega) only [go_sem, simprocAttr, h]
  refine call_ro (name_ok k) rfl rfl ?_
  simp (disch := omega) only [go_sem, simprocAttr]
  refine call_ro hi rfl rfl ?_
  simp (disch := omega) only [go_sem, simprocAttr]
  refine hR.ro ⟨rfl, ?_⟩
  simp [textP]
 ·rw [if_neg h] at hR
  simp (disch := omega) only [go_sem, simprocAttr, h]
  exact hR.ro ⟨rfl, rfl⟩
def idA (k : Int) (d : Bs) : AV := if checkP k d = 0 then .tup [.str (Sh.hexOf (Sh.sha1 (textP k d))), .int .i64 0] else .tup [.str [], .int .i64 (checkP k d)]
theorem check_len {k : Int} {d : Bs} (h : checkP k d = 0) : d.length ≤ 65000 := by
 unfold checkP at h
 split at h
 ·cases h
 ·split at h
  ·cases h
  ·omega
theorem text_len (k : Int) {d : Bs} (h : d.length ≤ 65000) : (textP k d).length ≤ 66000 := by
 have hnl := name_len k
 have hil := itoa_len d.length (by omega) (by omega)
 unfold textP
 simp only [List.length_append, List.length_cons]
 omega
theorem id_ok (k : Int) (d : Bs) (hd : d.length ≤ 9223372036854775807) : SpecR Tryd.prog 19 [objA k d] (idA k d) := by
 refine Cod.oid_spec (fun E R hN hR => ?_)
 have he := encode_ok k d hd
 unfold encA at he
 unfold idA at hR
 by_cases h : checkP k d = 0
 ·rw [if_pos h] at hR he
  have hl := text_len k (check_len h)
  have hs := Sh.sum1_ok (textP k d) (by omega)
  have hh := Sh.hex_ok (Sh.sha1 (textP k d)) (by rw [Sh.sha1_len]; omega)
  simp (disch := omega) only [go_sem, simprocAttr, objA]
  refine call_ro he rfl rfl ?_
  simp (disch := omega) only [go_sem, simprocAttr]
  refine call_ro hs rfl rfl ?_
  simp (disch := omega) only [go_sem, simprocAttr]
  refine call_ro hh rfl rfl ?_
  simp (disch := omega) only [go_sem, simprocAttr]
  exact hR.ro ⟨rfl, rfl⟩
 ·rw [if_neg h] at hR he
  simp (disch := omega) only [go_sem, simprocAttr, objA]
  refine call_ro he rfl rfl ?_
  simp (disch := omega) only [go_sem, simprocAttr, h]
  exact hR.ro ⟨rfl, rfl⟩
def digP (c : UInt8) : Int := if 48 ≤ c.toNat ∧ c.toNat ≤ 57 then (c.toNat : Int) - 48 else if 97 ≤ c.toNat ∧ c.toNat ≤ 102 then (c.toNat : Int) - 97 + 10 else -1
theorem udigit_ok (c : UInt8) : SpecR Tryd.prog 39 [.int .u8 (c.toNat : Int)] (.int .i64 (digP c)) := by
 refine Cod.udigit_spec (fun E R hN hR => ?_)
 have hc := c.toNat_lt
 unfold digP at hR
 by_cases h1 : 48 ≤ c.toNat
 ·by_cases h2 : c.toNat ≤ 57
  ·rw [if_pos ⟨h1, h2⟩] at hR
   simp (disch := omega) only [go_sem, simprocAttr]
   (repeat (first | refine gskip_of ?_ | refine gcskip_of ?_ | refine gopen_of ?_) <;> simp (disch := omega) only [go_sem, simprocAttr])
   exact hR.ro ⟨rfl, rfl⟩
  ·rw [if_neg (by omega)] at hR
   by_cases h3 : 97 ≤ c.toNat
   ·by_cases h4 : c.toNat ≤ 102
    ·rw [if_pos ⟨h3, h4⟩] at hR
     simp (disch := omega) only [go_sem, simprocAttr]
     (repeat (first | refine gskip_of ?_ | refine gcskip_of ?_ | refine gopen_of ?_) <;> simp (disch := omega) only [go_sem, simprocAttr])
     exact hR.ro ⟨rfl, rfl⟩
    ·rw [if_neg (by omega)] at hR
     simp (disch := omega) only [go_sem, simprocAttr]
     (repeat (first | refine gskip_of ?_ | refine gcskip_of ?_ | refine gopen_of ?_) <;> simp (disch := omega) only [go_sem, simprocAttr])
     exact hR.ro ⟨rfl, rfl⟩
   ·rw [if_neg (by omega)] at hR
    simp (disch := omega) only [go_sem, simprocAttr]
    (repeat (first | refine gskip_of ?_ | refine gcskip_of ?_ | refine gopen_of ?_) <;> simp (disch := omega) only [go_sem, simprocAttr])
    exact hR.ro ⟨rfl, rfl⟩
 ·rw [if_neg (by omega), if_neg (by omega)] at hR
  simp (disch := omega) only [go_sem, simprocAttr]
  (repeat (first | refine gskip_of ?_ | refine gcskip_of ?_ | refine gopen_of ?_) <;> simp (disch := omega) only [go_sem, simprocAttr])
  exact hR.ro ⟨rfl, rfl⟩
theorem dig_hex : ∀ k, k < 16 → digP (Sh.hexD.getD k 0) = (k : Int) := by decide +kernel
theorem hexOf_get (t : Bs) : ∀ k, k < t.length → (Sh.hexOf t).getD (2 * k) 0 = Sh.hexD.getD ((t.getD k 0).toNat / 16) 0 ∧ (Sh.hexOf t).getD (2 * k + 1) 0 = Sh.hexD.getD ((t.getD k 0).toNat % 16) 0 := by
 induction t with
 | nil => intro k h; simp at h
 | cons c r ih =>
  intro k h
  have e : Sh.hexOf (c :: r) = Sh.hexD.getD (c.toNat / 16) 0 :: Sh.hexD.getD (c.toNat % 16) 0 :: Sh.hexOf r := rfl
  rw [e]
  cases k with
  | zero => exact ⟨rfl, rfl⟩
  | succ k =>
   have := ih k (by simpa using h)
   rw [show 2 * (k + 1) = 2 * k + 1 + 1 by omega]
   simpa using this
theorem hex_or : ∀ a : Nat, a < 16 → ∀ b : Nat, b < 16 → bits .or .i64 (IntKind.i64.wrap ((a : Int) * 2 ^ min 4 64)) (b : Int) = ((16 * a + b : Nat) : Int) := by decide +kernel
theorem unhex_ok (t : Bs) (ht : t.length ≤ 1000) : SpecR Tryd.prog 20 [.str (Sh.hexOf t)] (.tup [.str t, .bool true]) := by
 refine Cod.unhex_spec (fun E R hN hR => ?_)
 have hl := Sh.hex_len t
 have hg := hexOf_get t
 generalize Sh.hexOf t = s at *
 simp (disch := omega) only [go_sem, simprocAttr]
 refine vcW_loop hN (fun k : Nat => ⟨[(0, .str s), (4, .sl 178037 0 k), (5, .int .i64 ((2 * k : Nat) : Int))], [(178037, .arr 1 ((t.take k).map ub))]⟩) (fun k => k ≤ t.length) (fun k => t.length - k) 0 (.nil 4 178037 1 rfl (.le (by simp (disch := omega) only [go_sem, simprocAttr, List.take_zero, List.map_nil]))) (by omega) ?_
 rintro k R1 hk hR1
 have htl : (t.take k).length = k := by rw [List.length_take]; omega
 by_cases hlt : k < t.length
 ·obtain ⟨g1, g2⟩ := hg k hlt
  have hc := (t.getD k 0).toNat_lt
  have d1 := udigit_ok (s.getD (2 * k) 0)
  have d2 := udigit_ok (s.getD (2 * k + 1) 0)
  rw [g1, dig_hex _ (by omega)] at d1
  rw [g2, dig_hex _ (by omega)] at d2
  have ho := hex_or ((t.getD k 0).toNat / 16) (by omega) ((t.getD k 0).toNat % 16) (by omega)
  rw [show 16 * ((t.getD k 0).toNat / 16) + (t.getD k 0).toNat % 16 = (t.getD k 0).toNat by omega] at ho
  have ei1 : (2 * (k : Int)).toNat = 2 * k := by omega
  have ei2 : (2 * (k : Int) + 1).toNat = 2 * k + 1 := by omega
  have htk := take_snoc t 0 hlt
  simp (disch := omega) only [go_sem, simprocAttr, hl, ei1, ei2, g1, g2]
  refine call_ro d1 rfl rfl ?_
  simp (disch := omega) only [go_sem, simprocAttr]
  refine call_ro d2 rfl rfl ?_
  simp (disch := omega) only [go_sem, simprocAttr, ho]
  (repeat (first | refine gskip_of ?_ | refine gcskip_of ?_ | refine gopen_of ?_) <;> simp (disch := omega) only [go_sem, simprocAttr])
  rw [UInt8.ofNat_toNat]
  exact hR1 (k + 1) _ (by omega) (by omega) (.le (by rw [htk, show 2 * (k + 1) = 2 * k + 2 by omega]; simp (disch := omega) only [go_sem, simprocAttr]))
 ·obtain rfl : k = t.length := by omega
  rw [List.take_of_length_le (Nat.le_refl _)]
  simp (disch := omega) only [go_sem, simprocAttr, hl]
  exact hR.ro ⟨rfl, rfl⟩
end Go.Proofs.YtjoefngnjoofeaaDoor.Pk
