/- Pseudo: hexadecimal digits, at the program and at the document. -/
import Derived.Test.YtgkcbhdpenmogaaDoorPsLess
set_option linter.all false
namespace Go.Proofs.YtgkcbhdpenmogaaDoor.Ps
open Eng Sv
set_option maxRecDepth 10000
def hexC (c : UInt8) : Bool := (decide (48 ≤ c.toNat) && decide (c.toNat ≤ 57)) || (decide (97 ≤ c.toNat) && decide (c.toNat ≤ 102))
def hv (c : UInt8) : Int := if 48 ≤ c.toNat ∧ c.toNat ≤ 57 then (c.toNat : Int) - 48 else if 97 ≤ c.toNat ∧ c.toNat ≤ 102 then (c.toNat : Int) - 87 else -1
theorem hv_yes {c : UInt8} (h : hexC c = true) : 0 ≤ hv c ∧ hv c < 16 := by
  unfold hexC at h
  simp only [Bool.or_eq_true, Bool.and_eq_true, decide_eq_true_eq] at h
  unfold hv
  split
  · omega
  · split
    · omega
    · omega
theorem hv_no {c : UInt8} (h : hexC c = false) : hv c = -1 := by
  unfold hexC at h
  simp only [Bool.or_eq_false_iff, Bool.and_eq_false_iff, decide_eq_false_iff_not] at h
  unfold hv
  rw [if_neg (by omega), if_neg (by omega)]
theorem wrap8_byte (x : Int) : ∃ b : UInt8, IntKind.u8.wrap x = (b.toNat : Int) := by
  refine ⟨UInt8.ofNat (IntKind.u8.wrap x).toNat, ?_⟩
  have h : 0 ≤ IntKind.u8.wrap x ∧ IntKind.u8.wrap x < 256 := by
    simp only [IntKind.wrap, IntKind.signed, IntKind.bits]
    simp
    omega
  rw [UInt8.toNat_ofNat']
  omega
theorem sdigit_ok (c : UInt8) : SpecR Tryd.prog 55 [.int .u8 (c.toNat : Int)] (.int .i64 (hv c)) := by
  refine Cod.sdigit_spec (fun E R hN hR => ?_)
  have hc := c.toNat_lt
  unfold hv at hR
  by_cases h1 : 48 ≤ c.toNat
  · by_cases h2 : c.toNat ≤ 57
    · rw [if_pos ⟨h1, h2⟩] at hR
      simp (disch := first | omega | (simp only [Lx]; omega)) only [go_sem, simprocAttr]
      (repeat (first | (with_reducible refine gskip_of ?_) | (with_reducible refine gcskip_of ?_) | (with_reducible refine gopen_of ?_)) <;> simp (disch := first | omega | (simp only [Lx]; omega)) only [go_sem, simprocAttr])
      exact hR.ro ⟨rfl, rfl⟩
    · rw [if_neg (by omega)] at hR
      by_cases h3 : 97 ≤ c.toNat
      · by_cases h4 : c.toNat ≤ 102
        · rw [if_pos ⟨h3, h4⟩] at hR
          simp (disch := first | omega | (simp only [Lx]; omega)) only [go_sem, simprocAttr]
          (repeat (first | (with_reducible refine gskip_of ?_) | (with_reducible refine gcskip_of ?_) | (with_reducible refine gopen_of ?_)) <;> simp (disch := first | omega | (simp only [Lx]; omega)) only [go_sem, simprocAttr])
          refine hR.ro ⟨rfl, ?_⟩
          congr 1; omega
        · rw [if_neg (by omega)] at hR
          simp (disch := first | omega | (simp only [Lx]; omega)) only [go_sem, simprocAttr]
          (repeat (first | (with_reducible refine gskip_of ?_) | (with_reducible refine gcskip_of ?_) | (with_reducible refine gopen_of ?_)) <;> simp (disch := first | omega | (simp only [Lx]; omega)) only [go_sem, simprocAttr])
          exact hR.ro ⟨rfl, rfl⟩
      · rw [if_neg (by omega)] at hR
        simp (disch := first | omega | (simp only [Lx]; omega)) only [go_sem, simprocAttr]
        (repeat (first | (with_reducible refine gskip_of ?_) | (with_reducible refine gcskip_of ?_) | (with_reducible refine gopen_of ?_)) <;> simp (disch := first | omega | (simp only [Lx]; omega)) only [go_sem, simprocAttr])
        exact hR.ro ⟨rfl, rfl⟩
  · rw [if_neg (by omega), if_neg (by omega)] at hR
    simp (disch := first | omega | (simp only [Lx]; omega)) only [go_sem, simprocAttr]
    (repeat (first | (with_reducible refine gskip_of ?_) | (with_reducible refine gcskip_of ?_) | (with_reducible refine gopen_of ?_)) <;> simp (disch := first | omega | (simp only [Lx]; omega)) only [go_sem, simprocAttr])
    exact hR.ro ⟨rfl, rfl⟩
theorem all_snoc (s : Bs) {k : Nat} (h : k < s.length) : (s.take (k + 1)).all hexC = ((s.take k).all hexC && hexC (s.getD k 0)) := by
  rw [take_succB 0 s h, List.all_append]; simp
theorem all_take_false {s : Bs} {k : Nat} (h : (s.take k).all hexC = false) : s.all hexC = false := by
  rw [← List.take_append_drop k s, List.all_append, h]; rfl
theorem unhex_ok (s : Bs) (hs : s.length ≤ 140737488351232) : Eng.Spec Tryd.prog 40 [] [.str s] (fun h r _ => h = [] ∧ ∃ x : Bs, r = .tup [.str x, .bool (s.all hexC && decide (s.length % 2 = 0))]) := by
  refine Cod.unhex_spec (fun E R hN hR => ?_)
  simp (disch := first | omega | (simp only [Lx]; omega)) only [go_sem, simprocAttr]
  refine vcW_loop hN (fun a : Nat × Bs => ⟨[(0, .str s), (4, .sl 35037 0 a.2.length), (5, .int .i64 a.1)], [(35037, .arr 1 (a.2.map ub))]⟩) (fun a => a.1 = 2 * a.2.length ∧ a.1 ≤ s.length + 1 ∧ (s.take a.1).all hexC = true) (fun a => s.length + 1 - a.1) (0, []) (.nil 4 35037 1 rfl (.le (by simp (disch := first | omega | (simp only [Lx]; omega)) only [go_sem, simprocAttr]))) ⟨rfl, by simp, by simp⟩ ?_
  rintro ⟨j, L⟩ R1 ⟨hj, hjl, hall⟩ hR1
  simp only at hj hjl hall
  have e1 : ((j : Int) + 1).toNat = j + 1 := by omega
  by_cases hlt : j + 1 < s.length
  · have ha1 := all_snoc s (k := j) (by omega)
    have ha2 := all_snoc s (k := j + 1) hlt
    rw [hall, Bool.true_and] at ha1
    rw [ha1] at ha2
    generalize hc1 : s.getD j 0 = c1 at *
    generalize hc2 : s.getD (j + 1) 0 = c2 at *
    simp (disch := first | omega | (simp only [Lx]; omega)) only [go_sem, simprocAttr, e1, hc1, hc2]
    refine call_ro (sdigit_ok c1) rfl rfl ?_
    simp (disch := first | omega | (simp only [Lx]; omega)) only [go_sem, simprocAttr, e1, hc1, hc2]
    refine call_ro (sdigit_ok c2) rfl rfl ?_
    cases h1 : hexC c1 with
    | false =>
      rw [h1] at ha1
      have hm := hv_no h1
      simp (disch := first | omega | (simp only [Lx]; omega)) only [go_sem, simprocAttr, hm]
      (repeat (first | (with_reducible refine gskip_of ?_) | (with_reducible refine gcskip_of ?_) | (with_reducible refine gopen_of ?_)) <;> simp (disch := first | omega | (simp only [Lx]; omega)) only [go_sem, simprocAttr])
      exact hR.wk (h' := []) (r' := .tup [.str [], .bool false]) (ar' := [.undef]) rfl (.le (by simp (disch := first | omega | (simp only [Lx]; omega)) only [go_sem, simprocAttr])) ⟨rfl, [], by rw [all_take_false ha1]; rfl⟩
    | true =>
      have hp1 := hv_yes h1
      cases h2 : hexC c2 with
      | false =>
        rw [h2, Bool.and_false] at ha2
        have hm := hv_no h2
        simp (disch := first | omega | (simp only [Lx]; omega)) only [go_sem, simprocAttr, hm]
        (repeat (first | (with_reducible refine gskip_of ?_) | (with_reducible refine gcskip_of ?_) | (with_reducible refine gopen_of ?_)) <;> simp (disch := first | omega | (simp only [Lx]; omega)) only [go_sem, simprocAttr])
        exact hR.wk (h' := []) (r' := .tup [.str [], .bool false]) (ar' := [.undef]) rfl (.le (by simp (disch := first | omega | (simp only [Lx]; omega)) only [go_sem, simprocAttr])) ⟨rfl, [], by rw [all_take_false ha2]; rfl⟩
      | true =>
        have hp2 := hv_yes h2
        rw [h1, h2] at ha2
        simp (disch := first | omega | (simp only [Lx]; omega)) only [go_sem, simprocAttr]
        (repeat (first | (with_reducible refine gskip_of ?_) | (with_reducible refine gcskip_of ?_) | (with_reducible refine gopen_of ?_)) <;> simp (disch := first | omega | (simp only [Lx]; omega)) only [go_sem, simprocAttr])
        obtain ⟨b, hb⟩ := wrap8_byte (bits BinOp.or IntKind.i64 (IntKind.i64.wrap (hv c1 * 2 ^ min 4 64)) (hv c2))
        rw [hb]
        refine hR1 (j + 2, L ++ [b]) _ (by simp only; omega) ⟨by simp; omega, by simp only; omega, ha2⟩ (.le ?_)
        simp (disch := first | omega | (simp only [Lx]; omega)) only [go_sem, simprocAttr]
        rw [List.map_append]; rfl
  · by_cases hodd : s.length % 2 = 0
    · obtain rfl : j = s.length := by omega
      rw [List.take_of_length_le (by omega)] at hall
      simp (disch := first | omega | (simp only [Lx]; omega)) only [go_sem, simprocAttr, e1, hodd]
      exact hR.wk (h' := []) (r' := .tup [.str L, .bool true]) (ar' := [.undef]) rfl (.le (by simp (disch := first | omega | (simp only [Lx]; omega)) only [go_sem, simprocAttr])) ⟨rfl, L, by rw [hall, hodd]; rfl⟩
    · simp (disch := first | omega | (simp only [Lx]; omega)) only [go_sem, simprocAttr, e1, hodd]
      exact hR.wk (h' := []) (r' := .tup [.str [], .bool false]) (ar' := [.undef]) rfl (.le (by simp (disch := first | omega | (simp only [Lx]; omega)) only [go_sem, simprocAttr])) ⟨rfl, [], by rw [decide_eq_false hodd, Bool.and_false]⟩
theorem hexed_ok (s : Bs) (hs : s.length ≤ 9223372036854775807) : SpecR Tryd.prog 44 [.str s] (.bool (s.all hexC && decide (s.length % 2 = 0))) := by
  refine Cod.hexed_spec (fun E R hN hR => ?_)
  simp (disch := first | omega | (simp only [Lx]; omega)) only [go_sem, simprocAttr]
  refine vcW_loop hN (fun k : Nat => ⟨[(0, .str s), (3, .int .i64 k)], []⟩) (fun k => k ≤ s.length ∧ (s.take k).all hexC = true) (fun k => s.length - k) 0 (.le (by simp (disch := first | omega | (simp only [Lx]; omega)) only [go_sem, simprocAttr])) ⟨by omega, by simp⟩ ?_
  rintro k R1 ⟨hk, hall⟩ hR1
  by_cases hlt : k < s.length
  · have ha := all_snoc s hlt
    rw [hall, Bool.true_and] at ha
    generalize hc : s.getD k 0 = c at *
    have hcl := c.toNat_lt
    have yes : hexC c = true → R1.ap ⟨[(0, .str s), (3, .int .i64 (k + 1))], []⟩ := by
      intro h
      rw [h] at ha
      exact hR1 (k + 1) _ (by omega) ⟨by omega, ha⟩ (.le (by simp (disch := first | omega | (simp only [Lx]; omega)) only [go_sem, simprocAttr]))
    have no : hexC c = false → R [] (.bool false) [.undef] := by
      intro h
      rw [h] at ha
      exact hR.ro ⟨rfl, by rw [all_take_false ha]; rfl⟩
    by_cases h1 : 48 ≤ c.toNat
    · by_cases h2 : c.toNat ≤ 57
      · have hh : hexC c = true := by simp [hexC, h1, h2]
        simp (disch := first | omega | (simp only [Lx]; omega)) only [go_sem, simprocAttr, hc]
        (repeat (first | (with_reducible refine gskip_of ?_) | (with_reducible refine gcskip_of ?_) | (with_reducible refine gopen_of ?_)) <;> simp (disch := first | omega | (simp only [Lx]; omega)) only [go_sem, simprocAttr])
        exact yes hh
      · by_cases h3 : 97 ≤ c.toNat
        · by_cases h4 : c.toNat ≤ 102
          · have hh : hexC c = true := by simp [hexC, h3, h4]
            simp (disch := first | omega | (simp only [Lx]; omega)) only [go_sem, simprocAttr, hc]
            (repeat (first | (with_reducible refine gskip_of ?_) | (with_reducible refine gcskip_of ?_) | (with_reducible refine gopen_of ?_)) <;> simp (disch := first | omega | (simp only [Lx]; omega)) only [go_sem, simprocAttr, hc])
            exact yes hh
          · have hh : hexC c = false := by simp [hexC]; omega
            simp (disch := first | omega | (simp only [Lx]; omega)) only [go_sem, simprocAttr, hc]
            (repeat (first | (with_reducible refine gskip_of ?_) | (with_reducible refine gcskip_of ?_) | (with_reducible refine gopen_of ?_)) <;> simp (disch := first | omega | (simp only [Lx]; omega)) only [go_sem, simprocAttr, hc])
            exact no hh
        · have hh : hexC c = false := by simp [hexC]; omega
          simp (disch := first | omega | (simp only [Lx]; omega)) only [go_sem, simprocAttr, hc]
          (repeat (first | (with_reducible refine gskip_of ?_) | (with_reducible refine gcskip_of ?_) | (with_reducible refine gopen_of ?_)) <;> simp (disch := first | omega | (simp only [Lx]; omega)) only [go_sem, simprocAttr, hc])
          exact no hh
    · have hh : hexC c = false := by simp [hexC]; omega
      simp (disch := first | omega | (simp only [Lx]; omega)) only [go_sem, simprocAttr, hc]
      (repeat (first | (with_reducible refine gskip_of ?_) | (with_reducible refine gcskip_of ?_) | (with_reducible refine gopen_of ?_)) <;> simp (disch := first | omega | (simp only [Lx]; omega)) only [go_sem, simprocAttr, hc])
      exact no hh
  · obtain rfl : k = s.length := by omega
    rw [List.take_of_length_le (by omega)] at hall
    simp (disch := first | omega | (simp only [Lx]; omega)) only [go_sem, simprocAttr]
    refine hR.ro ⟨rfl, ?_⟩
    rw [hall, Bool.true_and]
    congr 1
    exact decide_eq_decide.2 (by omega)
def revP (s : Bs) : Bool := decide (s.length = 12) && s.all hexC
theorem rev_ok (s : Bs) (hs : s.length ≤ 140737488351232) : SpecR Tryd.prog 17 [.str s] (.bool (revP s)) := by
  refine Cod.prev_spec (fun E R hN hR => ?_)
  simp (disch := first | omega | (simp only [Lx]; omega)) only [go_sem, simprocAttr]
  refine call_ro' (unhex_ok s hs) rfl ?_
  rintro h' v as' ⟨rfl, x, rfl⟩
  refine ⟨rfl, rfl, ?_⟩
  unfold revP at hR
  cases h1 : s.all hexC with
  | false =>
    rw [h1] at hR
    simp (disch := first | omega | (simp only [Lx]; omega)) only [go_sem, simprocAttr]
    (repeat (first | (with_reducible refine gskip_of ?_) | (with_reducible refine gcskip_of ?_) | (with_reducible refine gopen_of ?_)) <;> simp (disch := first | omega | (simp only [Lx]; omega)) only [go_sem, simprocAttr])
    exact hR.ro ⟨rfl, by rw [Bool.and_false]⟩
  | true =>
    rw [h1] at hR
    by_cases h12 : s.length = 12
    · simp (disch := first | omega | (simp only [Lx]; omega)) only [go_sem, simprocAttr, h12]
      (repeat (first | (with_reducible refine gskip_of ?_) | (with_reducible refine gcskip_of ?_) | (with_reducible refine gopen_of ?_)) <;> simp (disch := first | omega | (simp only [Lx]; omega)) only [go_sem, simprocAttr, h12])
      exact hR.ro ⟨rfl, by rw [decide_eq_true h12]; rfl⟩
    · by_cases h2 : s.length % 2 = 0
      · simp (disch := first | omega | (simp only [Lx]; omega)) only [go_sem, simprocAttr, h2, h12]
        (repeat (first | (with_reducible refine gskip_of ?_) | (with_reducible refine gcskip_of ?_) | (with_reducible refine gopen_of ?_)) <;> simp (disch := first | omega | (simp only [Lx]; omega)) only [go_sem, simprocAttr, h2, h12])
        exact hR.ro ⟨rfl, by rw [decide_eq_false h12]; rfl⟩
      · simp (disch := first | omega | (simp only [Lx]; omega)) only [go_sem, simprocAttr, h2]
        (repeat (first | (with_reducible refine gskip_of ?_) | (with_reducible refine gcskip_of ?_) | (with_reducible refine gopen_of ?_)) <;> simp (disch := first | omega | (simp only [Lx]; omega)) only [go_sem, simprocAttr, h2])
        exact hR.ro ⟨rfl, by rw [decide_eq_false h12]; rfl⟩
theorem rrev_ok (s : Bs) (hs : s.length ≤ 9223372036854775807) : SpecR Tryd.prog 22 [.str s] (.bool (revP s)) := by
  refine Cod.rrev_spec (fun E R hN hR => ?_)
  unfold revP at hR
  have hx := hexed_ok s hs
  by_cases h12 : s.length = 12
  · have : decide (s.length % 2 = 0) = true := by rw [h12]; rfl
    rw [this, Bool.and_true] at hx
    simp (disch := first | omega | (simp only [Lx]; omega)) only [go_sem, simprocAttr, h12]
    (repeat (first | (with_reducible refine gskip_of ?_) | (with_reducible refine gcskip_of ?_) | (with_reducible refine gopen_of ?_)) <;> simp (disch := first | omega | (simp only [Lx]; omega)) only [go_sem, simprocAttr, h12])
    refine gcyes_of (callT_ro (by simp (disch := first | omega | (simp only [Lx]; omega)) only [go_sem, simprocAttr]) hx (by simp (disch := first | omega | (simp only [Lx]; omega)) only [go_sem, simprocAttr]) rfl rfl ?_)
    simp (disch := first | omega | (simp only [Lx]; omega)) only [go_sem, simprocAttr]
    exact hR.ro ⟨rfl, by rw [decide_eq_true h12]; rfl⟩
  · simp (disch := first | omega | (simp only [Lx]; omega)) only [go_sem, simprocAttr, h12]
    (repeat (first | (with_reducible refine gskip_of ?_) | (with_reducible refine gcskip_of ?_) | (with_reducible refine gopen_of ?_)) <;> simp (disch := first | omega | (simp only [Lx]; omega)) only [go_sem, simprocAttr, h12])
    exact hR.ro ⟨rfl, by rw [decide_eq_false h12]; rfl⟩
def bldP (v : Ver) : Bs := if v.bu = [] then [] else 43 :: v.bu
theorem pbuild_ok (v : Ver) (hv : v.bu.length ≤ 1000000) : SpecR Tryd.prog 20 [verA v] (.str (bldP v)) := by
  refine Cod.pbuild_spec (fun E R hN hR => ?_)
  unfold bldP at hR
  by_cases h : v.bu = []
  · rw [if_pos h] at hR
    simp (disch := first | omega | (simp only [Lx]; omega)) only [go_sem, simprocAttr, verA, h]
    exact hR.ro ⟨rfl, rfl⟩
  · rw [if_neg h] at hR
    simp (disch := first | omega | (simp only [Lx]; omega)) only [go_sem, simprocAttr, verA, h]
    exact hR.ro ⟨rfl, rfl⟩
theorem rbuild_ok (v : Ver) (hv : v.bu.length ≤ 1000000) : SpecR Tryd.prog 25 [verA v] (.str (bldP v)) := by
  refine Cod.rbuild_spec (fun E R hN hR => ?_)
  unfold bldP at hR
  by_cases h : v.bu = []
  · rw [if_pos h] at hR
    simp (disch := first | omega | (simp only [Lx]; omega)) only [go_sem, simprocAttr, verA, h]
    exact hR.ro ⟨rfl, rfl⟩
  · rw [if_neg h] at hR
    simp (disch := first | omega | (simp only [Lx]; omega)) only [go_sem, simprocAttr, verA, h]
    exact hR.ro ⟨rfl, rfl⟩
theorem ends_ok (s p : Bs) (hs : s.length ≤ 1000000) (hp : p.length ≤ 1000000) : SpecR Tryd.prog 26 [.str s, .str p] (.bool (decide (p.length ≤ s.length ∧ s.drop (s.length - p.length) = p))) := by
  refine Cod.ends_spec (fun E R hN hR => ?_)
  by_cases hl : p.length ≤ s.length
  · have e : ((s.length : Int) - (p.length : Int)).toNat = s.length - p.length := by omega
    simp (disch := first | omega | (simp only [Lx]; omega)) only [go_sem, simprocAttr, e]
    (repeat (first | (with_reducible refine gskip_of ?_) | (with_reducible refine gcskip_of ?_) | (with_reducible refine gopen_of ?_)) <;> simp (disch := first | omega | (simp only [Lx]; omega)) only [go_sem, simprocAttr, e])
    refine hR.ro ⟨rfl, ?_⟩
    congr 1
    exact decide_eq_decide.2 ⟨fun h => ⟨hl, h⟩, fun h => h.2⟩
  · simp (disch := first | omega | (simp only [Lx]; omega)) only [go_sem, simprocAttr]
    (repeat (first | (with_reducible refine gskip_of ?_) | (with_reducible refine gcskip_of ?_) | (with_reducible refine gopen_of ?_)) <;> simp (disch := first | omega | (simp only [Lx]; omega)) only [go_sem, simprocAttr])
    exact hR.ro ⟨rfl, by rw [decide_eq_false (fun h => hl h.1)]⟩
end Go.Proofs.YtgkcbhdpenmogaaDoor.Ps
